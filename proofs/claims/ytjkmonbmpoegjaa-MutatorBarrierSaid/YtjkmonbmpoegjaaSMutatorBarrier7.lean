import Derived.ScopeJumps
import Derived.WalkMore
import Derived.Deep.CutRange
import Derived.Deep.DeepCutAuto
import Derived.Deep.LoopGhost
import Derived.RangeFuncWrites
import Derived.Deep.RegionHeld3
import Derived.Scope
import Derived.Laws.EntriesVeiled
import Derived.Deep.OwnRows
import Derived.Laws.MakeOwn
import Derived.Laws.OwnMore
import Derived.Lib.AppendZerosOnto
import Derived.Test.YtjkmonbmpoegjaaSMutatorBarrier6
set_option linter.unusedSimpArgs false
set_option linter.unusedVariables false
set_option linter.defProp false
def Zcd:=@_root_.Go.wp_scope_jumps
def Zc7:=@_root_.Nat.le_of_eq
def ZbP:=@_root_.Go.grownBy_keeps
def Zci:=@_root_.Bool.and_true
def Zce:=@_root_.Bool.and_false
def Zc8:=@_root_.Int.natCast_add
def Z9P:=@_root_.List.setIfInBounds_toArray
def Zat:=@_root_.List.set_cons_succ
def ZbQ:=@_root_.List.getElem?_cons_succ
def Zc9:=@_root_.decide_eq_false
def Zcf:=@_root_.Go.KeepsFrom.refl
section
namespace Vm
open Go Go.Proofs Go.RowKit
set_option maxHeartbeats 40000000
set_option maxRecDepth 100000
def X5(w:World)(r:Hp×Int)(e:Ending)(w':World):Prop:=
 ∃x,e= .returned (.tuple #[hpA r.1 x,.int .i64 r.2])∧Below w.heap.size w w'∧ ∀j,j<5→Rd w' (fun c=>w.heap.size≤c∧c<w'.heap.size) (.sl ((lsH r.1 j).map vu)) (x j)
theorem YD{w:World}{G:Nat→Prop}{h:Hp}{x:Nat→Value}(hh:h.ok)(hG: ∀b,G b→b<w.heap.size)(hr: ∀j,j<5→Rd w G (.sl ((lsH h j).map vu)) (x j)):
  Calls Try.prog 33 #[hpA h x] w fun e w'=>e= .returned (.bool (ZD h))∧Below w.heap.size w w':=by
 refine Zap ((Z34 hh).2 w G _ hG rfl ?_) ?_
 ·intro i y hy
  match i,hy with
  |0,hy=>cases hy;exact Qr hr
 ·rintro e w' ⟨v,rfl,hb,hv⟩;exact⟨by rw[VW hv],hb⟩
theorem Z2T(w:World)(G:Nat→Prop)(hG: ∀b,G b→b<w.heap.size)(h:Hp)(hh:h.ok)(src:Nat→Value)(hs: ∀j,j<5→Rd w G (.sl ((lsH h j).map vu)) (src j))(hr:ZD h=false):
  Calls Try.prog 17 #[hpA h src] w (X5 w (Hp.zero,1)):=by
 have hR: ∀W,Below w.heap.size w W→Calls Try.prog 33 #[hpA h src] W fun e w'=>e= .returned (.bool (ZD h))∧Below W.heap.size W w':=fun W hb=>
  YD (w:=W) (G:=G) (x:=src) hh (fun b hb'=>Z8z (hG b hb') hb.size) (fun j hj=>(hs j hj).keep (fun b hb'=>hb.block b (hG b hb')) fun _ q=>q)
 rw[hr]at hR;have HR:=Z8r hR;clear hR;clear hs hr;unfold hpA;go_enter Try.func17,Try.ntmps17;go_wp2;refine Zcd 0 (fun _ _=>False) (fun _ _=>0) rfl ?_ (fun _ _ h=>h.elim)
 go_upto_region 2 with (first
  | (go_at_call 33;refine(HR.out _ ?_).mono ?_;rotate_left;rintro e wa ⟨rfl,hba⟩
     have bA:wa.heap[w.heap.size]? =some (.cells #[.int .u64 h.base,.int .i64 h.cap,.int .i64 h.to,.bool h.cycle,.int .i64 h.scan,src 0,src 1,src 2,src 3,src 4] 25 (0,0)):=(hba.block _ (by simp;omega)).trans ((Z8t _ _ _ (by simp)).trans (Z8C w _));have bZ:wa.heap[w.heap.size+1]? =some (.cells Zf 25 (0,0)):=(hba.block _ (by simp)).trans (X4 w _);have ya: ∀j,wa.cell? ⟨w.heap.size,j,none⟩=(#[.int .u64 h.base,.int .i64 h.cap,.int .i64 h.to,.bool h.cycle,.int .i64 h.scan,src 0,src 1,src 2,src 3,src 4]:Array Value)[j]? :=fun j=>Z8s _ _ _ _ _ _ bA;have yz: ∀j,wa.cell? ⟨w.heap.size+1,j,none⟩=Zf[j]? :=fun j=>Z8s _ _ _ _ _ _ bZ;unfold Zf at yz;have fz: ∀j,wa.frozen? ⟨w.heap.size+1,j,none⟩=false:=fun j=>Zk bZ;have HBA:=Z8r hba;have HBZ:=Z8r (And.intro bA bZ);clear hba bA bZ))
 case refine_1=>exact((Z8E _ w).alloc (Z8v _) _).alloc (by simp) _
 go_wp2;simp only[Exit.jump];have hz:=Zj HBZ.out.2 (.int .u64 0) (.int .i64 0) (.int .i64 0) (.bool false) (.int .i64 0) (.slice none 0 0) (.slice none 0 0) (.slice none 0 0) (.slice none 0 0) (.slice none 0 0);refine Z8K (v:= .tuple #[.agg Zf,.int .i64 1]) ?_ rfl ?_
 ·simp[results,Try.results17,go_sem,hz,Zf]
 ·exact⟨fun _=> .slice none 0 0,rfl,Zh (Below.trans (((Z8E _ w).alloc (Z8v _) _).alloc (by simp) _) (HBA.out.mono (by simp;omega))) (by omega) _ _ _ _ _ _ _ _ _ _,UU _ _⟩
theorem Z3G(w:World)(G:Nat→Prop)(hG: ∀b,G b→b<w.heap.size)(h:Hp)(hh:h.ok)(src:Nat→Value)(hs: ∀j,j<5→Rd w G (.sl ((lsH h j).map vu)) (src j))(hr:ZD h=true)(hc:h.cycle=true):
  Calls Try.prog 17 #[hpA h src] w (X5 w (Hp.zero,10)):=by
 have hR: ∀W,Below w.heap.size w W→Calls Try.prog 33 #[hpA h src] W fun e w'=>e= .returned (.bool (ZD h))∧Below W.heap.size W w':=fun W hb=>
  YD (w:=W) (G:=G) (x:=src) hh (fun b hb'=>Z8z (hG b hb') hb.size) (fun j hj=>(hs j hj).keep (fun b hb'=>hb.block b (hG b hb')) fun _ q=>q)
 rw[hr]at hR;unfold hpA at hR;rw[hc]at hR;have HR:=Z8r hR;clear hR;clear hs hr;unfold hpA;rw[hc];clear hc;go_enter Try.func17,Try.ntmps17;go_wp2;refine Zcd 0 (fun _ _=>False) (fun _ _=>0) rfl ?_ (fun _ _ h=>h.elim)
 go_upto_region 4 with (first
  | (go_at_call 33;refine(HR.out _ ?_).mono ?_;rotate_left;rintro e wa ⟨rfl,hba⟩
     have bA:wa.heap[w.heap.size]? =some (.cells #[.int .u64 h.base,.int .i64 h.cap,.int .i64 h.to,.bool true,.int .i64 h.scan,src 0,src 1,src 2,src 3,src 4] 25 (0,0)):=(hba.block _ (by simp;omega)).trans ((Z8t _ _ _ (by simp)).trans (Z8C w _));have bZ:wa.heap[w.heap.size+1]? =some (.cells Zf 25 (0,0)):=(hba.block _ (by simp)).trans (X4 w _);have ya: ∀j,wa.cell? ⟨w.heap.size,j,none⟩=(#[.int .u64 h.base,.int .i64 h.cap,.int .i64 h.to,.bool true,.int .i64 h.scan,src 0,src 1,src 2,src 3,src 4]:Array Value)[j]? :=fun j=>Z8s _ _ _ _ _ _ bA;have yz: ∀j,wa.cell? ⟨w.heap.size+1,j,none⟩=Zf[j]? :=fun j=>Z8s _ _ _ _ _ _ bZ;unfold Zf at yz;have fz: ∀j,wa.frozen? ⟨w.heap.size+1,j,none⟩=false:=fun j=>Zk bZ;have HBA:=Z8r hba;have HBZ:=Z8r (And.intro bA bZ);clear hba bA bZ))
 case refine_1=>exact((Z8E _ w).alloc (Z8v _) _).alloc (by simp) _
 go_wp2;simp only[Exit.jump];have hz:=Zj HBZ.out.2 (.int .u64 0) (.int .i64 0) (.int .i64 0) (.bool false) (.int .i64 0) (.slice none 0 0) (.slice none 0 0) (.slice none 0 0) (.slice none 0 0) (.slice none 0 0);refine Z8K (v:= .tuple #[.agg Zf,.int .i64 10]) ?_ rfl ?_
 ·simp[results,Try.results17,go_sem,hz,Zf]
 ·exact⟨fun _=> .slice none 0 0,rfl,Zh (Below.trans (((Z8E _ w).alloc (Z8v _) _).alloc (by simp) _) (HBA.out.mono (by simp;omega))) (by omega) _ _ _ _ _ _ _ _ _ _,UU _ _⟩
end Vm
end
section
namespace Vm
open Go Go.Proofs Go.RowKit
set_option maxHeartbeats 1000000
set_option maxRecDepth 100000
theorem KX{P:Program}{a:Act}{w:World}{Q:Exit→Act→World→Prop}{c rest:Code}(l:Nat)(J:Act→World→Prop)(μ:Act→World→Nat)(hf:findLabel c l=some (.seq .skip rest))
  (pass: ∀a w,J a w→rest.wp P (Exit.jump l (fun a' w'=>J a' w'∧μ a' w'<μ a w) Q) a w)
  (first:(∀a w,J a w→rest.wp P (Exit.jump l J Q) a w)→c.wp P (Exit.jump l J Q) a w):(Code.scope c).wp P Q a w:=
 Zcd l J μ hf (first fun a w hJ=>Code.wp_mono (fun e a' w' h=>by
  cases e<;>first
   |exact h
   |exact⟨h.1,h.2.1⟩) (pass a w hJ)) fun a w hJ=>wp_seq (wp_skip (pass a w hJ))
theorem jB{t:Array Value}{n:Nat}(h:t.size=n):t=((List.range n).map fun i=>t.getD i undef).toArray:=by
 apply Zbh
 ·simp[h]
 ·intro i h1 h2;simp[Array.getD,h1]
theorem zT{w2:World}{b:Nat}{T:TypeId}{a0 a1 a2 a3 a4 a5 a6 a7 a8 a9:Value}(hb:w2.heap[b]? =some (.cells #[a0,a1,a2,a3,a4,a5,a6,a7,a8,a9] T (0,0))) (v0 v1 v2 v3 v4 v5 v6 v7 v8 v9:Value):((((((((((w2.setCell ⟨b,0,none⟩ v0).setCell ⟨b,1,none⟩ v1).setCell ⟨b,2,none⟩ v2).setCell ⟨b,3,none⟩ v3).setCell ⟨b,4,none⟩ v4).setCell ⟨b,5,none⟩ v5).setCell ⟨b,6,none⟩ v6).setCell ⟨b,7,none⟩ v7).setCell ⟨b,8,none⟩ v8).setCell ⟨b,9,none⟩ v9).heap[b]? =some (.cells #[v0,v1,v2,v3,v4,v5,v6,v7,v8,v9] T (0,0)):=by
 simp[World.setCell,Z8R,hb]
def hpC(h:Hp)(x:Nat→Value):Array Value:= #[.int .u64 h.base,.int .i64 h.cap,.int .i64 h.to,.bool h.cycle,.int .i64 h.scan,x 0,x 1,x 2,x 3,x 4]
structure FlI (w W:World) (c:Nat) (g:Hp) (x:Nat→Value):Prop where
 below:Below w.heap.size w W
 rb:W.heap[w.heap.size+1]? =some (.cells Zf 25 (0,0))
 le:w.heap.size+2≤c
 nb:W.heap[c]? =some (.cells (hpC g x) 25 (0,0))
 rd: ∀j,j<5→Rd W (fun b=>w.heap.size+2≤b∧b<W.heap.size∧b≠c) (.sl ((lsH g j).map vu)) (x j)
theorem Z5n{n:Int}(h:n=0∨n=1):Fit (1-n):=by unfold Fit;omega
theorem Z1G{h:Hp}(hh:h.ok)(ht:h.to=0∨h.to=1):(Wi h).ok:=by
 obtain⟨a1,a2,a3,a4,a5,a6,a7,a8,a9,b1,b2,b3,b4,b5⟩:=hh;exact⟨a1,a2,Z5n ht,⟨by show _≤(0:Int);omega,by show(0:Int)≤_;omega⟩,Z9n _,Z9n _,a5,a6,a9,fun w hw=>(by cases hw),fun w hw=>(by cases hw),b1,b2,b5⟩
theorem Z1L{h:Hp}(hh:h.ok){k:Nat}{v:Int}(hv:U64 v):({h with roots:=h.roots.set k v}:Hp).ok:=by
 obtain⟨a1,a2,a3,a4,a5,a6,a7,a8,a9,b1,b2,b3,b4,b5⟩:=hh;refine⟨a1,a2,a3,a4,a5,a6,a7,a8,by simp only[Z9y];exact a9,b1,b2,b3,b4,fun w hw=> ?_⟩;rcases Z9r hw with hw|rfl
 ·exact b5 w hw
 ·exact hv
theorem Z12{l:List Int}(h: ∀w∈l,U64 w)(i:Nat):U64 ((l[i]?).getD 0):=by
 cases e:l[i]? with
 |none=>exact⟨by decide,by decide⟩
 |some x=>exact h x (Z8x e)
theorem Qe{h:Hp}(hh:h.ok)(ht:h.to=0∨h.to=1): ∀k,(VQ (Wi h) k).ok
 |0=>Z1G hh ht
 |k+1=>by
  have ih:=Qe hh ht k;have f:=Kk ih (Z12 ih.rootsW k);exact Z1L f.1 f.2
def frs(i:Nat):Nat:=if i<7 then 39+i else if i=7 then 38 else if i=8 then 46 else if i=9 then 47 else if i=10 then 48 else if i=11 then 7 else if i=12 then 6 else if i=14 then 8 else 0
theorem KY: ∀i,i<15→ ∀j,j<15→i≠j→frs i≠frs j:=by decide
def frE(c:Nat)(g:Hp)(x:Nat→Value)(k:Nat)(ea:Value)(u:Int):Nat→Value
 |0=> .agg (hpC g x)
 |1=> .pointer (some ⟨c,9,none⟩)
 |2=>x 4
 |3=> .int .i64 k
 |4=>ea
 |_=> .int .u64 u
def frT(fv:Int)(g':Hp)(x':Nat→Value):Value:= .tuple #[.int .u64 fv,.agg (hpC g' x'),.int .i64 0]
def FrV(E:Nat→Value)(fv:Int)(g':Hp)(O:(Nat→Value)→Prop)(i:Nat)(val:Value):Prop:=
 if i<6 then val=E i else if i=6∨i=7 then ∃x',val=frT fv g' x'∧O x' else if i=9 then ∃x',val= .agg (hpC g' x')∧O x' else if i=8∨i=12 then val= .int .u64 fv else val= .int .i64 0
theorem FrV.mono{E:Nat→Value}{fv:Int}{g':Hp}{O O':(Nat→Value)→Prop}{i:Nat}{val:Value}(h:FrV E fv g' O i val)(ho: ∀x,O x→O' x):FrV E fv g' O' i val:=by
 unfold FrV at*;split
 ·rename_i c;rw[if_pos c]at h;exact h
 rename_i c;rw[if_neg c]at h;split
 ·rename_i c;rw[if_pos c]at h;obtain⟨x,e,o⟩:=h;exact⟨x,e,ho x o⟩
 rename_i c;rw[if_neg c]at h;split
 ·rename_i c;rw[if_pos c]at h;obtain⟨x,e,o⟩:=h;exact⟨x,e,ho x o⟩
 rename_i c;rw[if_neg c]at h;exact h
structure FrO (W0 W:World) (L:Nat→Bool) (v:Nat→Value) (g':Hp) (x':Nat→Value):Prop where
 own:HOwn W0.heap.size W g' x'
 far: ∀j,j<5→ ∀b,(x' j).ownBlock=some b→L 11=true→v 7≠ .pointer (some ⟨b,0,none⟩)
structure FrC (W0:World) (E:Nat→Value) (fv:Int) (g':Hp) (L:Nat→Bool) (v:Nat→Value) (W:World):Prop where
 b:Below W0.heap.size W0 W
 val: ∀i,i<15→i≠11→i≠13→L i=true→FrV E fv g' (FrO W0 W L v g') i (v (frs i))
 new:L 11=true→ ∃c,v 7= .pointer (some ⟨c,0,none⟩)∧W0.heap.size≤c∧c<W.heap.size∧(L 13=false→W.heap[c]? =some (.cells Zf 25 (0,0)))
 put:L 13=true→ ∃c x',v 7= .pointer (some ⟨c,0,none⟩)∧W.heap[c]? =some (.cells (hpC g' x') 25 (0,0))∧FrO W0 W L v g' x'
 c13:L 13=true→L 11=true
section
variable {W0 W W':World} {E:Nat→Value} {fv:Int} {g':Hp} {L:Nat→Bool} {v:Nat→Value}
theorem FrO.keep{L':Nat→Bool}{v':Nat→Value}{x':Nat→Value}(o:FrO W0 W L v g' x')(hs: ∀j,j<5→ ∀b,(x' j).ownBlock=some b→W'.heap[b]? =W.heap[b]?)(hz:W.heap.size≤W'.heap.size)
  (hf: ∀j,j<5→ ∀b,(x' j).ownBlock=some b→L' 11=true→v' 7≠ .pointer (some ⟨b,0,none⟩)):FrO W0 W' L' v' g' x':=
 ⟨⟨fun j hj=>Ze (o.own.own j hj) fun b hb=>hs j hj b hb,o.own.apart⟩,hf⟩
theorem FrC.step(C:FrC W0 E fv g' L v W){i s:Nat}(hi:i<15)(h11:i≠11)(h13:i≠13)(hs:s=frs i){x:Value}(hb:Below W.heap.size W W')
  (hv:FrV E fv g' (FrO W0 W' L v g') i x):FrC W0 E fv g' (add L i) (setV v s x) W':=by
 subst hs;have a11:add L i 11=L 11:=YI (by omega);have a13:add L i 13=L 13:=YI (by omega);have v7:setV v (frs i) x 7=v 7:=We v x (show frs 11≠frs i from KY 11 (by omega) i hi (Zab h11));have kp: ∀x',FrO W0 W L v g' x'→FrO W0 W' (add L i) (setV v (frs i) x) g' x':=fun x' o=>o.keep (fun j hj b hb'=>hb.block b ((o.own.own j hj).lt b hb').2) hb.size (fun j hj b hb'=>by rw[a11,v7];exact o.far j hj b hb');have kp': ∀x',FrO W0 W' L v g' x'→FrO W0 W' (add L i) (setV v (frs i) x) g' x':=fun x' o=>o.keep (fun _ _ _ _=>rfl) (Z8v _) (fun j hj b hb'=>by rw[a11,v7];exact o.far j hj b hb');refine⟨C.b.trans (hb.mono C.b.size),fun j hj j11 j13 hL=> ?_,fun hL=> ?_,fun hL=> ?_,fun hL=> ?_⟩
 ·by_cases e:j=i
  ·subst e;rw[X6];exact hv.mono kp'
  ·rw[YI e]at hL;rw[We v x (KY j hj i hi e)];exact(C.val j hj j11 j13 hL).mono kp
 ·rw[a11]at hL;obtain⟨c,e1,e2,e3,e4⟩:=C.new hL;refine⟨c,by rw[v7];exact e1,e2,Z8z e3 hb.size,fun h0=> ?_⟩;rw[a13]at h0;exact(hb.block c e3).trans (e4 h0)
 ·rw[a13]at hL;obtain⟨c,x',e1,e2,e3⟩:=C.put hL;exact⟨c,x',by rw[v7];exact e1,(hb.block c (Za e2)).trans e2,kp x' e3⟩
 ·rw[a13]at hL;rw[a11];exact C.c13 hL
theorem FrC.call(C:FrC W0 E fv g' L v W){x':Nat→Value}(hb:Below W.heap.size W W')(ho:HOwn W.heap.size W' g' x'):FrC W0 E fv g' (add L 6) (setV v 45 (frT fv g' x')) W':=by
 refine C.step (by omega) (by omega) (by omega) rfl hb ?_;unfold FrV;rw[if_neg (by omega),if_pos (.inl rfl)];refine⟨x',rfl,⟨fun j hj=>Tf (ho.own j hj) fun b h1 h2=>⟨Z8Y C.b.size h1,h2⟩,ho.apart⟩,fun j hj b hb' hL e=> ?_⟩;obtain⟨c,e1,_,e3,_⟩:=C.new hL;rw[e1]at e;cases e;have:=((ho.own j hj).lt b hb').1;omega
theorem FrC.alloc(C:FrC W0 E fv g' L v W)(h11:L 11=false):FrC W0 E fv g' (add L 11) (setV v 7 (.pointer (some ⟨W.heap.size,0,none⟩))) (W.alloc (.cells Zf 25)):=by
 have h13:L 13=false:=by
  cases e:L 13 with
  |false=>rfl
  |true=>have:=C.c13 e;rw[h11]at this;cases this
 have hb:Below W.heap.size W (W.alloc (.cells Zf 25)):=(Z8E _ _).alloc (Z8v _) _;have hz:(W.alloc (.cells Zf 25)).heap.size=W.heap.size+1:=by simp
 have kp: ∀x',FrO W0 W L v g' x'→FrO W0 (W.alloc (.cells Zf 25)) (add L 11) (setV v 7 (.pointer (some ⟨W.heap.size,0,none⟩))) g' x':=fun x' o=>o.keep (fun j hj b hb'=>hb.block b ((o.own.own j hj).lt b hb').2) hb.size (fun j hj b hb' _=>by
  rw[X6];intro e;cases e;have:=((o.own.own j hj).lt _ hb').2;omega)
 refine⟨C.b.trans (hb.mono C.b.size),fun j hj j11 j13 hL=> ?_,fun hL=> ?_,fun hL=> ?_,fun hL=> ?_⟩
 ·rw[YI j11]at hL;rw[We v _ (s:=7) (t:=frs j) (show frs j≠7 from KY j hj 11 (by omega) j11)];exact(C.val j hj j11 j13 hL).mono kp
 ·exact⟨W.heap.size,X6 _ _ _,C.b.size,by omega,fun _=>Z8C W _⟩
 ·rw[YI (by omega),h13]at hL;cases hL
 ·exact TM _ _
theorem FrC.store(C:FrC W0 E fv g' L v W){c:Nat}(hc:v 7= .pointer (some ⟨c,0,none⟩)){y:Nat→Value}(hy:FrO W0 W L v g' y)(h11:L 11=true)(hn:L 13=false)(hz:W.heap[c]? =some (.cells Zf 25 (0,0)))
  (hW: ∀b,b≠c→W'.heap[b]? =W.heap[b]?) (hs:W'.heap.size=W.heap.size) (hp:W'.heap[c]? =some (.cells (hpC g' y) 25 (0,0))) (hb:Below W0.heap.size W W'):FrC W0 E fv g' (add L 13) v W':=by
 have a11:add L 13 11=L 11:=YI (by omega);have kp: ∀x',FrO W0 W L v g' x'→FrO W0 W' (add L 13) v g' x':=fun x' o=>o.keep (fun j hj b hb'=>hW b (fun e=>by subst e;exact o.far j hj b hb' h11 hc)) (by omega) (fun j hj b hb' _=>o.far j hj b hb' h11);obtain⟨c',e1,e2,e3,_⟩:=C.new h11;rw[hc]at e1;cases e1;refine⟨C.b.trans hb,fun j hj j11 j13 hL=> ?_,fun hL=> ?_,fun hL=> ?_,fun hL=>by rw[a11];exact h11⟩
 ·rw[YI j13]at hL;exact(C.val j hj j11 j13 hL).mono kp
 ·refine⟨c,hc,e2,by omega,fun h0=> ?_⟩;rw[TM]at h0;cases h0
 ·exact⟨c,y,hc,hp,kp y hy⟩
theorem FrC.e(C:FrC W0 E fv g' L v W)(i:Nat)(hi:i<6)(hL:L i=true):v (frs i)=E i:=by
 have:=C.val i (by omega) (by omega) (by omega) hL;unfold FrV at this;rwa[if_pos hi]at this
theorem FrC.t(C:FrC W0 E fv g' L v W)(i:Nat)(hi:i=6∨i=7)(hL:L i=true): ∃x',v (frs i)=frT fv g' x'∧FrO W0 W L v g' x':=by
 have:=C.val i (by omega) (by omega) (by omega) hL;unfold FrV at this;rwa[if_neg (by omega),if_pos hi]at this
theorem FrC.a(C:FrC W0 E fv g' L v W)(hL:L 9=true): ∃x',v 47= .agg (hpC g' x')∧FrO W0 W L v g' x':=by
 have:=C.val 9 (by omega) (by omega) (by omega) hL;unfold FrV at this;rwa[if_neg (by omega),if_neg (by omega),if_pos rfl]at this
theorem FrC.f(C:FrC W0 E fv g' L v W)(i:Nat)(hi:i=8∨i=12)(hL:L i=true):v (frs i)= .int .u64 fv:=by
 have:=C.val i (by omega) (by omega) (by omega) hL;unfold FrV at this;rwa[if_neg (by omega),if_neg (by omega),if_neg (by omega),if_pos hi]at this
theorem FrC.z(C:FrC W0 E fv g' L v W)(i:Nat)(hi:i=10∨i=14)(hL:L i=true):v (frs i)= .int .i64 0:=by
 have:=C.val i (by omega) (by omega) (by omega) hL;unfold FrV at this;rwa[if_neg (by omega),if_neg (by omega),if_neg (by omega),if_neg (by omega)]at this
theorem FrC.pe(C:FrC W0 E fv g' L v W)(i:Nat)(hi:i<6){s:Nat}(hs:s=frs i):FrC W0 E fv g' (add L i) (setV v s (E i)) W:=
 C.step (by omega) (by omega) (by omega) hs (Z8E _ _) (by unfold FrV;rw[if_pos hi])
theorem FrC.pt(C:FrC W0 E fv g' L v W){x':Nat→Value}(o:FrO W0 W L v g' x'):FrC W0 E fv g' (add L 7) (setV v 38 (frT fv g' x')) W:=
 C.step (by omega) (by omega) (by omega) rfl (Z8E _ _) (by unfold FrV;rw[if_neg (by omega),if_pos (.inr rfl)];exact⟨x',rfl,o⟩)
theorem FrC.pa(C:FrC W0 E fv g' L v W){x':Nat→Value}(o:FrO W0 W L v g' x'):FrC W0 E fv g' (add L 9) (setV v 47 (.agg (hpC g' x'))) W:=
 C.step (by omega) (by omega) (by omega) rfl (Z8E _ _) (by unfold FrV;rw[if_neg (by omega),if_neg (by omega),if_pos rfl];exact⟨x',rfl,o⟩)
theorem FrC.pf(C:FrC W0 E fv g' L v W)(i:Nat)(hi:i=8∨i=12){s:Nat}(hs:s=frs i):FrC W0 E fv g' (add L i) (setV v s (.int .u64 fv)) W:=
 C.step (by omega) (by omega) (by omega) hs (Z8E _ _) (by unfold FrV;rw[if_neg (by omega),if_neg (by omega),if_neg (by omega),if_pos hi])
theorem FrC.pz(C:FrC W0 E fv g' L v W)(i:Nat)(hi:i=10∨i=14){s:Nat}(hs:s=frs i):FrC W0 E fv g' (add L i) (setV v s (.int .i64 0)) W:=
 C.step (by omega) (by omega) (by omega) hs (Z8E _ _) (by unfold FrV;rw[if_neg (by omega),if_neg (by omega),if_neg (by omega),if_neg (by omega)])
end
theorem Us{W:World}{G:Nat→Prop}{l:List Int}{y:Value}(h:Rd W G (.sl (l.map vu)) y){k:Nat}{u:Int}(hu:l[k]? =some u): ∃b o cap,y= .slice (some ⟨b,o,none⟩) l.length cap∧W.cell? ⟨b,o+k,none⟩=some (.int .u64 u)∧G b:=by
 have hkl:=(Z8o.1 hu).1;generalize hL:l.map vu=L at h;cases h with
 |nil=>simp at hL;subst hL;simp at hkl
 |sl _ b o cap kk vs h1 h2 h3 h4 h5 h6=>
  have hlen:L.length=l.length:=by rw[←hL,Z8P]
  have hkk:kk=1:=by
   have:=(h4 (vu u) (by rw[←hL];exact ZaB (Z8x hu))).1;simpa using this.symm
  subst hkk;refine⟨b,o,cap,by rw[hlen],?_,h3⟩;rw[h5 k (by omega)];have hf:(flat L)[k]? =some (vu u):=by rw[←hL,Uc,Z8D,hu];rfl
  rw[Ye (h6 k _ hf)]
end Vm
end
section
namespace Vm
open Go Go.Proofs
set_option maxRecDepth 100000
def Yz(l:List Ob)(i:Int):Bool:=l.any fun o=>decide (o.at_<i)&&decide (i≤o.at_+o.ptrs)
def Yy(g:Hp):Hp:=if g.scan=g.low.length then {g with cycle:=false,old:= [],far:= []}else g
def Wo(h:Hp):Hp:=
 Yy (if Yz (Zp h.low [] false).1 h.scan=true then
  {(fwd h ((h.low[h.scan.toNat]?).getD 0)).2.1 with low:=(fwd h ((h.low[h.scan.toNat]?).getD 0)).2.1.low.set h.scan.toNat (fwd h ((h.low[h.scan.toNat]?).getD 0)).1,scan:=h.scan+1}
 else {h with scan:=h.scan+1})
def ZG(h:Hp):Nat→Hp
 |0=>h
 |k+1=>if h.cycle then ZG (Wo h) k else h
section
variable {h g:Hp} {p q:Pts}
theorem YW{l:List Ob}{i:Int}:Yz l i=true↔ ∃o∈l,o.at_<i∧i≤o.at_+o.ptrs:=by
 unfold Yz;simp
theorem Rt.walk(r:Rt h p):Zp h.low [] false=(p.low,0):=by
 have t:=r.tiles 1 (by omega);simp only[YQ,Pts.at1]at t;refine Ux t ?_;unfold Wb
 have:p.low.filter (fun o=>o.gone)= []:=by
  rw[Zb9];intro o ho;rw[t.no_gone o ho];simp
 rw[this];rfl
theorem JV(t:Tld h p){w:Int}(hg:Gos h p w 1 2):U1 w=true:=by
 unfold U1;rcases hg.odd t (by omega) (by omega)with h0| ⟨k,_,_,_,o,_,h1,_⟩
 ·simp[h0]
 ·simp[h1]
theorem Body.set_low(b:Body g q){i:Nat}(hs:g.scan=i)(hi:i<g.low.length){v:Int}(hv:Gos g q v 1 2)(hp:Yz q.low i=true):Body {g with low:=g.low.set i v,scan:=(i:Int)+1} q:=by
 obtain⟨o,ho,h1,h2⟩:=YW.1 hp;obtain⟨a,n,m,ea,en,em,hal,_,hmn⟩:=b.toTld.ob (k:=1) (by omega) ho;simp only[YQ]at hal
 have hl:layH {g with low:=g.low.set i v,scan:=(i:Int)+1}=layH g:=by
  unfold layH;simp
 have gos: ∀ {w i' j'},Gos {g with low:=g.low.set i v,scan:=(i:Int)+1} q w i' j'↔Gos g q w i' j':=VN hl;have t1:=b.tiles 1 (by omega);simp only[YQ,Pts.at1]at t1
 have hword: ∀x∈q.low,∀j:Nat,(j:Int)≤x.size→x.at_.toNat+j=i→x=o∧0<j∧(j:Int)≤x.ptrs:=by
  intro x hx j hj e;obtain⟨c,d,d',ec,ed,ed',_⟩:=b.toTld.ob (k:=1) (by omega) hx;rcases t1.apart x hx o ho with e1|e1|e1
  ·subst e1;exact⟨rfl,by omega,by omega⟩
  ·omega
  ·omega
 refine⟨⟨by rw[hl];exact b.lay,fun k hk=> ?_⟩,by rw[hl];exact b.gone,fun k hk x hx hg j hj w hw=> ?_,?_⟩
 ·by_cases k1:k=1
  ·subst k1;show Tiles (g.low.set i v) _ 0 q.low;refine t1.congr (by simp) fun x hx=> ?_;have hst:=(t1.stands x hx).1;have hsh:=Z4.1 hst.shape;obtain⟨c,d,d',ec,ed,ed',hcl,_⟩:=b.toTld.ob (k:=1) (by omega) hx;have hg:=t1.no_gone x hx
   have h0:(g.low.set i v)[x.at_.toNat]? =g.low[x.at_.toNat]? :=by
    refine Z96 fun e=> ?_;have:=(hword x hx 0 (by omega) (by omega)).2.1;omega
   refine⟨hst.nat,hst.shape,by simpa using hst.fits,Yq fun j w hj=>⟨fun h=>(by rw[hg]at h;cases h),fun hp=> ?_⟩,by rw[h0];exact hst.word⟩
   have hlt:j<x.size.toNat:=by
    have:=(Z8o.1 hj).1;simp at this;omega
   rw[Z9b hlt,Z8N]at hj;by_cases e:x.at_.toNat+1+j=i
   ·rw[e,Z9u hi]at hj;cases hj;exact JV b.toTld hv
   ·rw[Z96 (fun h=>e h.symm)]at hj;refine(Xq hst.slots j w ?_).2 hp;rw[Z9b hlt,Z8N];exact hj
  ·have:=b.tiles k hk;have e:Z5 {g with low:=g.low.set i v,scan:=(i:Int)+1} k=Z5 g k:=by unfold Z5;rw[if_neg k1,if_neg k1]
   rw[e];exact this
 ·unfold X0;by_cases k1:k=1
  ·subst k1;simp only[YQ]at hw;rw[if_neg (by omega)];by_cases e:x.at_.toNat+1+j=i
   ·rw[e,Z9u hi]at hw;cases hw;rw[if_neg (by rw[e];simp only;omega)];exact gos.2 hv
   ·rw[Z96 (fun h=>e h.symm)]at hw;have:=b.ptr 1 hk x hx hg j hj w hw;unfold X0 at this;rw[if_neg (by omega)]at this;by_cases c:g.scan≤((x.at_.toNat+1+j:Nat):Int)
    ·rw[if_pos ⟨rfl,c⟩]at this;rw[if_pos ⟨rfl,by simp only;omega⟩];exact this.imp gos.2 gos.2
    ·rw[if_neg (fun h=>c h.2)]at this;rw[if_neg (by simp only;omega)];exact gos.2 this
  ·have e:Z5 {g with low:=g.low.set i v,scan:=(i:Int)+1} k=Z5 g k:=by unfold Z5;rw[if_neg k1,if_neg k1]
   rw[e]at hw;have:=b.ptr k hk x hx hg j hj w hw;unfold X0 at this;by_cases c:2<k
   ·rw[if_pos c]at this⊢;exact gos.2 this
   ·rw[if_neg c,if_neg (fun h=>k1 h.1)]at this;rw[if_neg c,if_neg (fun h=>k1 h.1)];exact gos.2 this
 ·have:=b.room;simpa using this
theorem Body.pass(b:Body g q){i:Nat}(hs:g.scan=i)(hp: ¬Yz q.low i=true):Body {g with scan:=(i:Int)+1} q:=by
 refine⟨⟨b.lay,b.tiles⟩,b.gone,fun k hk x hx hg j hj w hw=> ?_,b.room⟩;have:=b.ptr k hk x hx hg j hj w hw;unfold X0 at this⊢;by_cases c:2<k
 ·rw[if_pos c]at this⊢;exact this
 rw[if_neg c]at this⊢;by_cases k1:k=1
 ·subst k1;by_cases c:g.scan≤((x.at_.toNat+1+j:Nat):Int)
  ·rw[if_pos ⟨rfl,c⟩]at this
   have hne:x.at_.toNat+1+j≠i:=fun e=>hp (YW.2 ⟨x,hx,by
    obtain⟨a,n,m,ea,en,em,_⟩:=b.toTld.ob (k:=1) (by omega) hx;omega⟩)
   rw[if_pos ⟨rfl,by simp only;omega⟩];exact this
  ·rw[if_neg (fun h=>c h.2)]at this;rw[if_neg (by simp only;omega)];exact this
 ·rw[if_neg (fun h=>k1 h.1)]at this⊢;exact this
theorem Body.stop(b:Body g q)(hs:g.scan=g.low.length):Body {g with cycle:=false,old:= [],far:= []} ⟨q.low,q.high,[],[]⟩:=by
 have hl:=Zm.1 b.lay
 have hf: ∀k a:Int,(k=1∨k=2)→refR (layH {g with cycle:=false,old:= [],far:= []}) k a=refR (layH g) k a:=fun k a hk=>by
  rcases hk with rfl|rfl<;>rfl
 have gos: ∀ {w:Int},Gos g q w 1 2→Gos {g with cycle:=false,old:= [],far:= []} ⟨q.low,q.high,[],[]⟩ w 1 2:=fun {w} hg=>by
  rcases hg with rfl| ⟨k,o,hk,ho,rfl⟩
  ·exact .inl rfl
  ·refine .inr ⟨k,o,hk,?_,(hf k _ hk).symm⟩;rcases hk with rfl|rfl<;>exact ho
 refine⟨⟨Zm.2 ?_,fun k hk=> ?_⟩,fun k hk o ho=> ?_,fun k hk x hx hg j hj w hw=> ?_,?_⟩
 ·simp only[layH,Z9L]at hl⊢;omega
 ·have h4:k=1∨k=2∨k=3∨k=4:=by omega
  rcases h4 with rfl|rfl|rfl|rfl
  ·exact b.tiles 1 (by omega)
  ·exact b.tiles 2 (by omega)
  ·exact Z8v 0
  ·exact Z8v 0
 ·have h4:k=3∨k=4:=by omega
  rcases h4 with rfl|rfl<;>cases ho
 ·have h4:k=1∨k=2∨k=3∨k=4:=by omega
  rcases h4 with rfl|rfl|rfl|rfl
  ·have:=b.ptr 1 (by omega) x hx hg j hj w hw;obtain⟨a,n,m,ea,en,em,hal,_,hmn⟩:=b.toTld.ob (k:=1) (by omega) hx;simp only[YQ]at hal;unfold X0 at this⊢;rw[if_neg (by omega),if_neg (by omega)]at this;rw[if_neg (by omega),if_neg (by simp only;omega)];exact gos this
  ·have:=b.ptr 2 (by omega) x hx hg j hj w hw;unfold X0 at this⊢;rw[if_neg (by omega),if_neg (by omega)]at this⊢;exact gos this
  ·cases hx
  ·cases hx
 ·have:=b.room;show(g.low.length:Int)+g.high.length+Yi ⟨q.low,q.high,[],[]⟩≤g.cap;simp[Yi,wtL];omega
structure ScanTo (h:Hp) (p:Pts) (g:Hp) (q:Pts):Prop where
 eq:Wo h=g
 rt:Rt g q
 low: ∃ws,g.low.length=h.low.length+ws∧ ∀j:Nat,(j:Int) <h.scan→g.low[j]? =h.low[j]?
 high:g.high=h.high
 roots:g.roots=h.roots
 num:g.base=h.base∧g.cap=h.cap∧g.to=h.to∧g.scan=h.scan+1
 obsL: ∃r,q.low=p.low++r
 obsH:q.high=p.high
 room:g.cycle=true→(g.low.length:Int)+Yi q=h.low.length+Yi p
 roomE:(g.low.length:Int)≤h.low.length+Yi p
theorem Rt.scan(r:Rt h p)(hc:h.cycle=true): ∃g q,ScanTo h p g q:=by
 obtain⟨i,hi⟩:=Z8H r.scan0;have hil:i<h.low.length:=by have:=r.cyc hc;omega
 have hwk:=r.walk
 have fin: ∀(f:Hp) (s:Pts),Body f s→Once f s→f.scan=(i:Int)+1→f.cycle=true→(i:Int)+1≤f.low.length→(∀w∈f.roots,Gos f s w 1 2)→f.roots.length≤16→ ∃q,Rt (Yy f) q∧(q.low=s.low∧q.high=s.high)∧((Yy f).cycle=true→q=s):=by
  intro f s b o hs hcy hl hr hn;unfold Yy;by_cases e:f.scan=f.low.length
  ·rw[if_pos e];have b':=b.stop e;refine⟨_,⟨b',hn,by show 0≤f.scan;omega,by show f.scan≤f.low.length;omega,fun h=>(by cases h),fun _=>⟨e,rfl,rfl⟩,fun h=>(by cases h),fun w hw=> ?_⟩,⟨rfl,rfl⟩,fun h=>(by cases h)⟩;rcases hr w hw with rfl| ⟨k,o,hk,ho,rfl⟩
   ·exact .inl rfl
   ·refine .inr ⟨k,o,hk,?_,?_⟩
    ·rcases hk with rfl|rfl<;>exact ho
    ·rcases hk with rfl|rfl<;>rfl
  ·rw[if_neg e];exact⟨s,⟨b,hn,by omega,by omega,fun _=>by omega,fun h=>(by rw[hcy]at h;cases h),fun _=>o,hr⟩,⟨rfl,rfl⟩,fun _=>rfl⟩
 have endp: ∀f:Hp,(Yy f).low=f.low∧(Yy f).high=f.high∧(Yy f).roots=f.roots∧(Yy f).base=f.base∧(Yy f).cap=f.cap∧(Yy f).to=f.to∧(Yy f).scan=f.scan:=fun f=>by
  unfold Yy;split<;>exact⟨rfl,rfl,rfl,rfl,rfl,rfl,rfl⟩
 have hw:h.low[i]? =some h.low[i]:=Z8n hil;generalize h.low[i]=w at hw;by_cases hp:Yz p.low i=true
 ·obtain⟨o,ho,h1,h2⟩:=YW.1 hp;obtain⟨a,n,m,ea,en,em,hal,_⟩:=r.toTld.ob (k:=1) (by omega) ho
  have hgw:Gos h p w 1 2∨Gos h p w 3 4:=by
   have t1:=r.tiles 1 (by omega);have:=r.ptr 1 (by omega) o ho (t1.no_gone o ho) (i-a-1) (by omega) w (by simp only[YQ];rw[ea,show(a:Int).toNat+1+(i-a-1)=i by omega];exact hw);unfold X0 at this;rw[if_neg (by omega),if_pos ⟨rfl,by omega⟩]at this;exact this
  obtain⟨v,g,q,f⟩:=r.toBody.forward (r.once hc) r.scanL hgw;have hs:g.scan=i:=f.ext.scan.trans hi;obtain⟨ws,hws⟩:=f.ext.low;obtain⟨rs,hrs⟩:=f.ext.obsL;have hil2:i<g.low.length:=by rw[hws,Z8W];omega
  have hp2:Yz q.low i=true:=YW.2 ⟨o,by rw[hrs];exact Z9A _ ho,h1,h2⟩;have b:=f.body.set_low hs hil2 f.tgo hp2
  have eq:Wo h=Yy {g with low:=g.low.set i v,scan:=(i:Int)+1}:=by
   unfold Wo;rw[hwk,hi,if_pos hp];simp only[Z8B,hw,Z91,f.fwd]
  have hcy:g.cycle=true:=f.ext.cycle.trans hc;have hl:layH {g with low:=g.low.set i v,scan:=(i:Int)+1}=layH g:=by unfold layH;simp
  have on:Once {g with low:=g.low.set i v,scan:=(i:Int)+1} q:=by
   have:=f.once;unfold Once at this⊢;rw[hl];exact this
  obtain⟨s,rt,⟨s1,s2⟩,s3⟩:=fin _ q b on rfl hcy (by simp;omega) (fun w hw=>(VN hl).2 (f.ext.gos (by omega) (by omega) (r.roots w (by rw[←f.ext.roots];exact hw)))) (by show g.roots.length≤16;rw[f.ext.roots];exact r.nroots);obtain⟨k1,k2,k3,k4,k5,k6,k7⟩:=endp {g with low:=g.low.set i v,scan:=(i:Int)+1};rw[←eq]at rt k1 k2 k3 k4 k5 k6 k7 s3;have hlen:(Wo h).low.length=g.low.length:=by rw[k1];simp
  refine⟨_,s,rfl,rt,⟨ws.length,by rw[hlen,hws,Z8W],fun j hj=> ?_⟩,k2.trans f.ext.high,k3.trans f.ext.roots,⟨k4.trans f.ext.base,k5.trans f.ext.cap,k6.trans f.ext.tos,by rw[k7,hi]⟩,⟨rs,by rw[s1,hrs]⟩,s2.trans f.ext.obsH,fun h=> ?_,?_⟩
  ·rw[k1];simp only;rw[Z96 (by omega),hws,Z8G (by omega)]
  ·rw[s3 h,hlen];exact f.ext.room
  ·rw[hlen];have:=f.ext.room;omega
 ·have b:=r.toBody.pass hi hp
  have eq:Wo h=Yy {h with scan:=(i:Int)+1}:=by
   unfold Wo;rw[hwk,hi,if_neg hp]
  obtain⟨s,rt,⟨s1,s2⟩,s3⟩:=fin _ p b (r.once hc) rfl hc (by simp only;omega) r.roots r.nroots;obtain⟨k1,k2,k3,k4,k5,k6,k7⟩:=endp {h with scan:=(i:Int)+1};rw[←eq]at rt k1 k2 k3 k4 k5 k6 k7 s3;refine⟨_,s,rfl,rt,⟨0,by rw[k1];rfl,fun j hj=>by rw[k1]⟩,k2,k3,⟨k4,k5,k6,by rw[k7,hi]⟩,⟨[],by rw[s1,Z9t]⟩,s2,fun h=> ?_,?_⟩
  ·rw[s3 h,k1]
  ·rw[k1];simp only;omega
end
end Vm
end
section
namespace Vm
open Go Go.Proofs Go.RowKit
set_option maxHeartbeats 40000000
set_option maxRecDepth 100000
structure NowI (B:Nat→Prop) (W:World) (b:Nat) (g:Hp) (x:Nat→Value):Prop where
 le:B b
 nb:W.heap[b]? =some (.cells (hpC g x) 25 (0,0))
 rd: ∀j,j<5→Rd W (fun c=>B c∧c<W.heap.size∧c≠b) (.sl ((lsH g j).map vu)) (x j)
def Sy(B:Nat→Prop)(W:World)(b:Nat)(g':Hp)(e:Ending)(W':World):Prop:=e= .returned (.int .i64 0)∧W.grownBy W' (some b)∧ ∃x',NowI B W' b g' x'
theorem zE(W:World)(B:Nat→Prop)(b:Nat)(g:Hp)(x:Nat→Value)(S:NowI B W b g x)(gok:g.ok)(i:Nat)(hi:g.scan=i)(hil:i<g.low.length)(pt:Bool)(h0:pt=false∨g.low[i]? =some 0):
  Calls Try.prog 79 #[.bool pt,.pointer (some ⟨b,0,none⟩)] W (Sy B W b (Yy {g with scan:=(i:Int)+1})):=by
 obtain⟨u,hu⟩: ∃u,g.low[i]? =some u:=⟨_,Z8n hil⟩;obtain⟨gb,go,cap,hx0,hcell,hgG⟩:=Us (S.rd 0 (by omega)) hu;rw[show(lsH g 0).length=g.low.length from rfl]at hx0;have hnb:=S.nb;unfold hpC at hnb;rw[hx0,hi]at hnb;have yb: ∀j,W.cell? ⟨b,j,none⟩=(#[.int .u64 g.base,.int .i64 g.cap,.int .i64 g.to,.bool g.cycle,.int .i64 i,.slice (some ⟨gb,go,none⟩) g.low.length cap,x 1,x 2,x 3,x 4]:Array Value)[j]? :=fun j=>Z8s _ _ _ _ _ _ hnb;have fb: ∀j,W.frozen? ⟨b,j,none⟩=false:=fun j=>Zk hnb;have hll:=gok.low;have wi:=Z1 ((i:Int)+1) (by omega) (by omega);have hilI:((i:Int) < (g.low.length:Int))=True:=ZaJ (by omega);have HS:=Z8r S;have HN:=Z8r (And.intro hnb (And.intro hx0 (And.intro hgG hi)))
 have h00:pt=false∨pt=true∧u=0:=by
  rcases h0 with h|h
  ·exact .inl h
  ·rw[hu]at h;cases pt
   ·exact .inl rfl
   ·exact .inr ⟨rfl,Zc3 h⟩
 clear S hnb hx0 hgG h0 hi;go_enter Try.func79,Try.ntmps79;have hsize: ∀c v,(W.setCell c v).heap.size=W.heap.size:=fun c v=>by simp[World.setCell]
 by_cases hend:i+1=g.low.length
 ·have hendI:((i:Int)+1==(g.low.length:Int))=true:=by simp;omega
  have HEND:=Z8r hend;clear hend
  have fin:Sy B W b (Yy {g with scan:=(i:Int)+1}) (.returned (.int .i64 0)) ((((W.setCell ⟨b,4,none⟩ (.int .i64 ((i:Int)+1))).setCell ⟨b,3,none⟩ (.bool false)).setCell ⟨b,7,none⟩ (.slice none 0 0)).setCell ⟨b,8,none⟩ (.slice none 0 0)):=by
   have he:Yy {g with scan:=(i:Int)+1}= {g with scan:=(i:Int)+1,cycle:=false,old:= [],far:= []}:=by
    unfold Yy;rw[if_pos (by show(i:Int)+1=(g.low.length:Int);have:=HEND.out;omega)]
   rw[he]
   have hot: ∀c,c≠b→((((W.setCell ⟨b,4,none⟩ (.int .i64 ((i:Int)+1))).setCell ⟨b,3,none⟩ (.bool false)).setCell ⟨b,7,none⟩ (.slice none 0 0)).setCell ⟨b,8,none⟩ (.slice none 0 0)).heap[c]? =W.heap[c]? :=fun c hc=>by
    simp[World.setCell,Z8R,Zab hc]
   have hz:((((W.setCell ⟨b,4,none⟩ (.int .i64 ((i:Int)+1))).setCell ⟨b,3,none⟩ (.bool false)).setCell ⟨b,7,none⟩ (.slice none 0 0)).setCell ⟨b,8,none⟩ (.slice none 0 0)).heap.size=W.heap.size:=by simp[World.setCell]
   refine⟨rfl,⟨rfl,rfl,rfl,Zc7 hz.symm,fun c _ hc=>hot c (fun e=>hc (by rw[e]))⟩,fun j=>if j=2∨j=3 then .slice none 0 0 else x j,HS.out.le,?_,fun j hj=> ?_⟩
   ·have:=HN.out.1;have e0:=HN.out.2.1;simp[World.setCell,Z8R,this,hpC,e0]
   ·have:j=2∨j=3∨(j≠2∧j≠3):=by omega
    rcases this with rfl|rfl| ⟨h2,h3⟩
    ·exact .nil _ _ (by unfold maxLen;omega)
    ·exact .nil _ _ (by unfold maxLen;omega)
    ·have hl:lsH {g with scan:=(i:Int)+1,cycle:=false,old:= [],far:= []} j=lsH g j:=by
      have:j=0∨j=1∨j=4:=by omega
      rcases this with rfl|rfl|rfl<;>rfl
     rw[hl];simp only[h2,h3,or_self,Z9f];exact(HS.out.rd j hj).keep (fun c hc=>hot c hc.2.2) fun c hc=>⟨hc.1,by rw[hz];exact hc.2.1,hc.2.2⟩
  rcases h00 with rfl| ⟨rfl,rfl⟩
  all_goals
   go_wp2;exact Z8K (v:= .int .i64 0) (by simp[results,Try.results79,go_sem]) rfl fin
 ·have hendI:((i:Int)+1==(g.low.length:Int))=false:=by simp;omega
  have HEND:=Z8r hend;clear hend
  have fin:Sy B W b (Yy {g with scan:=(i:Int)+1}) (.returned (.int .i64 0)) (W.setCell ⟨b,4,none⟩ (.int .i64 ((i:Int)+1))):=by
   have he:Yy {g with scan:=(i:Int)+1}= {g with scan:=(i:Int)+1}:=by
    unfold Yy;rw[if_neg (by show ¬(i:Int)+1=(g.low.length:Int);have:=HEND.out;omega)]
   rw[he];have hot: ∀c,c≠b→(W.setCell ⟨b,4,none⟩ (.int .i64 ((i:Int)+1))).heap[c]? =W.heap[c]? :=fun c hc=>Z8I _ _ _ _ hc;have hz:=hsize ⟨b,4,none⟩ (.int .i64 ((i:Int)+1));refine⟨rfl,⟨rfl,rfl,rfl,Zc7 hz.symm,fun c _ hc=>hot c (fun e=>hc (by rw[e]))⟩,x,HS.out.le,?_,fun j hj=> ?_⟩
   ·have:=HN.out.1;have e0:=HN.out.2.1;simp[World.setCell,Z8R,this,hpC,e0]
   ·exact(HS.out.rd j hj).keep (fun c hc=>hot c hc.2.2) fun c hc=>⟨hc.1,by rw[hz];exact hc.2.1,hc.2.2⟩
  rcases h00 with rfl| ⟨rfl,rfl⟩
  all_goals
   go_wp2;exact Z8K (v:= .int .i64 0) (by simp[results,Try.results79,go_sem]) rfl fin
end Vm
end
section
namespace Vm
open Go Go.Proofs Go.RowKit
set_option maxHeartbeats 40000000
set_option maxRecDepth 100000
theorem Z2I{B:Nat→Prop}{W:World}{b:Nat}{g:Hp}{x:Nat→Value}(S:NowI B W b g x)(n:Int):W.grownBy (W.setCell ⟨b,4,none⟩ (.int .i64 n)) (some b)∧NowI B (W.setCell ⟨b,4,none⟩ (.int .i64 n)) b {g with scan:=n} x:=by
 have hot: ∀c,c≠b→(W.setCell ⟨b,4,none⟩ (.int .i64 n)).heap[c]? =W.heap[c]? :=fun c hc=>Z8I _ _ _ _ hc;have hz:(W.setCell ⟨b,4,none⟩ (.int .i64 n)).heap.size=W.heap.size:=by simp[World.setCell]
 refine⟨⟨rfl,rfl,rfl,Zc7 hz.symm,fun c _ hc=>hot c (fun e=>hc (by rw[e]))⟩,S.le,?_,fun j hj=> ?_⟩
 ·have:=S.nb;unfold hpC at this;simp[World.setCell,Z8R,this,hpC]
 ·exact(S.rd j hj).keep (fun c hc=>hot c hc.2.2) fun c hc=>⟨hc.1,by rw[hz];exact hc.2.1,hc.2.2⟩
theorem Z21{B:Nat→Prop}{W:World}{b:Nat}{g:Hp}{x:Nat→Value}(S:NowI B W b g x):W.grownBy (((W.setCell ⟨b,3,none⟩ (.bool false)).setCell ⟨b,7,none⟩ (.slice none 0 0)).setCell ⟨b,8,none⟩ (.slice none 0 0)) (some b)∧
  NowI B (((W.setCell ⟨b,3,none⟩ (.bool false)).setCell ⟨b,7,none⟩ (.slice none 0 0)).setCell ⟨b,8,none⟩ (.slice none 0 0)) b {g with cycle:=false,old:= [],far:= []} (fun j=>if j=2∨j=3 then .slice none 0 0 else x j):=by
 have hot: ∀c,c≠b→(((W.setCell ⟨b,3,none⟩ (.bool false)).setCell ⟨b,7,none⟩ (.slice none 0 0)).setCell ⟨b,8,none⟩ (.slice none 0 0)).heap[c]? =W.heap[c]? :=fun c hc=>by
  simp[World.setCell,Z8R,Zab hc]
 have hz:(((W.setCell ⟨b,3,none⟩ (.bool false)).setCell ⟨b,7,none⟩ (.slice none 0 0)).setCell ⟨b,8,none⟩ (.slice none 0 0)).heap.size=W.heap.size:=by simp[World.setCell]
 refine⟨⟨rfl,rfl,rfl,Zc7 hz.symm,fun c _ hc=>hot c (fun e=>hc (by rw[e]))⟩,S.le,?_,fun j hj=> ?_⟩
 ·have:=S.nb;unfold hpC at this;simp[World.setCell,Z8R,this,hpC]
 ·have:j=2∨j=3∨(j≠2∧j≠3):=by omega
  rcases this with rfl|rfl| ⟨h2,h3⟩
  ·exact .nil _ _ (by unfold maxLen;omega)
  ·exact .nil _ _ (by unfold maxLen;omega)
  ·have hl:lsH {g with cycle:=false,old:= [],far:= []} j=lsH g j:=by
    have:j=0∨j=1∨j=4:=by omega
    rcases this with rfl|rfl|rfl<;>rfl
   rw[hl];simp only[h2,h3,or_self,Z9f];exact(S.rd j hj).keep (fun c hc=>hot c hc.2.2) fun c hc=>⟨hc.1,by rw[hz];exact hc.2.1,hc.2.2⟩
theorem Z3L(W:World)(B:Nat→Prop)(b:Nat)(hBW: ∀c,W.heap.size≤c→B c)(g:Hp)(x:Nat→Value)(S:NowI B W b g x)(gok:g.ok)(i:Nat)(hi:g.scan=i)(hil:i<g.low.length){u:Int}(hu:g.low[i]? =some u)(hu0: ¬u=0){v:Int}{g1:Hp}(hf:fwd g u=(v,g1,0))(h1l:i<g1.low.length)(h1s:g1.scan=i):
  Calls Try.prog 79 #[.bool true,.pointer (some ⟨b,0,none⟩)] W (Sy B W b (Yy {g1 with low:=g1.low.set i v,scan:=(i:Int)+1})):=by
 obtain⟨gb,go,cap,hx0,hcell,hgG⟩:=Us (S.rd 0 (by omega)) hu;rw[show(lsH g 0).length=g.low.length from rfl]at hx0;have hnb:=S.nb;unfold hpC at hnb;rw[hx0,hi]at hnb;have yb: ∀j,W.cell? ⟨b,j,none⟩=(#[.int .u64 g.base,.int .i64 g.cap,.int .i64 g.to,.bool g.cycle,.int .i64 i,.slice (some ⟨gb,go,none⟩) g.low.length cap,x 1,x 2,x 3,x 4]:Array Value)[j]? :=fun j=>Z8s _ _ _ _ _ _ hnb;have hll:=gok.low;have uu:=gok.lowW u (Z8x hu);have wi:=Z1 ((i:Int)+1) (by omega) (by omega);have hilI:((i:Int) < (g.low.length:Int))=True:=ZaJ (by omega)
 have hF: ∀W',Below W.heap.size W W'→Calls Try.prog 39 #[.agg #[.int .u64 g.base,.int .i64 g.cap,.int .i64 g.to,.bool g.cycle,.int .i64 i,.slice (some ⟨gb,go,none⟩) g.low.length cap,x 1,x 2,x 3,x 4],.int .u64 u] W' (WY W' (v,g1,0)):=fun W' hb=>by
  have:=Vd W' (fun c=>B c∧c<W.heap.size∧c≠b) (fun c hc=>Z8z hc.2.1 hb.size) g gok x (fun j hj=>(S.rd j hj).keep (fun c hc=>hb.block c hc.2.1) fun _ q=>q) u uu;rw[hf]at this;unfold hpA at this;rw[hx0,hi]at this;exact this
 have HF:=Z8r hF;have HBW:=Z8r hBW;have HS:=Z8r S;have HN:=Z8r (And.intro hnb (And.intro hx0 (And.intro hgG hi)));have g1ok:=(Kk gok uu);rw[hf]at g1ok;have HG1:=Z8r g1ok;have hbl:=Za hnb;clear S hnb hx0 hgG hi hF hf g1ok hBW;go_enter Try.func79,Try.ntmps79;go_upto_region 6 with (go_at_call 39;refine(HF.out _ (Z8E _ _)).mono ?_;rintro e w9 ⟨x9,rfl,hb9,ho9⟩;obtain⟨a0,q0,f0⟩:=Z3 (ho9.own 0 (by omega));obtain⟨a1,q1,f1⟩:=Z3 (ho9.own 1 (by omega));obtain⟨a2,q2,f2⟩:=Z3 (ho9.own 2 (by omega));obtain⟨a3,q3,f3⟩:=Z3 (ho9.own 3 (by omega));obtain⟨a4,q4,f4⟩:=Z3 (ho9.own 4 (by omega));obtain⟨g4,rfl⟩:=XU (ho9.own 0 (by omega)) f0 (by show 0<g1.low.length;omega);rw[show(lsH g1 0).length=g1.low.length from rfl]at f0;unfold hpA;rw[f0,f1,f2,f3,f4];have HO:=Z8r (And.intro hb9 (And.intro ho9 (And.intro f0 (And.intro f1 (And.intro f2 (And.intro f3 f4))))));clear hb9 ho9 f0 f1 f2 f3 f4);have hz9:=HO.out.1.size;have hw2:Below W.heap.size W (w9.alloc (.cells #[.int .u64 g1.base,.int .i64 g1.cap,.int .i64 g1.to,.bool g1.cycle,.int .i64 i,.slice (some ⟨g4,0,none⟩) g1.low.length q0,.slice a1 (lsH g1 1).length q1,.slice a2 (lsH g1 2).length q2,.slice a3 (lsH g1 3).length q3,.slice a4 (lsH g1 4).length q4] 25)):=HO.out.1.alloc hz9 _;have b72:=Z8C w9 (.cells #[.int .u64 g1.base,.int .i64 g1.cap,.int .i64 g1.to,.bool g1.cycle,.int .i64 i,.slice (some ⟨g4,0,none⟩) g1.low.length q0,.slice a1 (lsH g1 1).length q1,.slice a2 (lsH g1 2).length q2,.slice a3 (lsH g1 3).length q3,.slice a4 (lsH g1 4).length q4] 25);have hz2:(w9.alloc (.cells #[.int .u64 g1.base,.int .i64 g1.cap,.int .i64 g1.to,.bool g1.cycle,.int .i64 i,.slice (some ⟨g4,0,none⟩) g1.low.length q0,.slice a1 (lsH g1 1).length q1,.slice a2 (lsH g1 2).length q2,.slice a3 (lsH g1 3).length q3,.slice a4 (lsH g1 4).length q4] 25)).heap.size=w9.heap.size+1:=by simp
 have hown2:HOwn W.heap.size (w9.alloc (.cells #[.int .u64 g1.base,.int .i64 g1.cap,.int .i64 g1.to,.bool g1.cycle,.int .i64 i,.slice (some ⟨g4,0,none⟩) g1.low.length q0,.slice a1 (lsH g1 1).length q1,.slice a2 (lsH g1 2).length q2,.slice a3 (lsH g1 3).length q3,.slice a4 (lsH g1 4).length q4] 25)) g1 x9:=⟨fun j hj=>Ze (HO.out.2.1.own j hj) fun c hc=>Z8t w9 _ c ((HO.out.2.1.own j hj).lt c hc).2,HO.out.2.1.apart⟩;have hg4:W.heap.size≤g4∧g4<w9.heap.size:=(HO.out.2.1.own 0 (by omega)).lt g4 (by rw[HO.out.2.2.1];rfl);obtain⟨W2,hW2⟩: ∃W2,W2=w9.alloc (.cells #[.int .u64 g1.base,.int .i64 g1.cap,.int .i64 g1.to,.bool g1.cycle,.int .i64 i,.slice (some ⟨g4,0,none⟩) g1.low.length q0,.slice a1 (lsH g1 1).length q1,.slice a2 (lsH g1 2).length q2,.slice a3 (lsH g1 3).length q3,.slice a4 (lsH g1 4).length q4] 25):=⟨_,rfl⟩;rw[←hW2]at hw2 b72 hz2 hown2⊢;clear hW2;have hb2:=(hw2.block b hbl).trans HN.out.1;have y7: ∀j,W2.cell? ⟨w9.heap.size,j,none⟩=(#[.int .u64 g1.base,.int .i64 g1.cap,.int .i64 g1.to,.bool g1.cycle,.int .i64 i,.slice (some ⟨g4,0,none⟩) g1.low.length q0,.slice a1 (lsH g1 1).length q1,.slice a2 (lsH g1 2).length q2,.slice a3 (lsH g1 3).length q3,.slice a4 (lsH g1 4).length q4]:Array Value)[j]? :=fun j=>Z8s _ _ _ _ _ _ b72;have yb2: ∀j,W2.cell? ⟨b,j,none⟩=(#[.int .u64 g.base,.int .i64 g.cap,.int .i64 g.to,.bool g.cycle,.int .i64 i,.slice (some ⟨gb,go,none⟩) g.low.length cap,x 1,x 2,x 3,x 4]:Array Value)[j]? :=fun j=>Z8s _ _ _ _ _ _ hb2;have fb2: ∀j,W2.frozen? ⟨b,j,none⟩=false:=fun j=>Zk hb2;have HW2:=Z8r (And.intro hw2 (And.intro hown2 (And.intro hz2 hb2)));clear hw2 hown2 hz2 hb2 b72;go_upto_region 7 with fail;obtain⟨W3,hW3⟩: ∃W3,W3=((((((((((W2.setCell ⟨b,0,none⟩ (.int .u64 g1.base)).setCell ⟨b,1,none⟩ (.int .i64 g1.cap)).setCell ⟨b,2,none⟩ (.int .i64 g1.to)).setCell ⟨b,3,none⟩ (.bool g1.cycle)).setCell ⟨b,4,none⟩ (.int .i64 i)).setCell ⟨b,5,none⟩ (.slice (some ⟨g4,0,none⟩) g1.low.length q0)).setCell ⟨b,6,none⟩ (.slice a1 (lsH g1 1).length q1)).setCell ⟨b,7,none⟩ (.slice a2 (lsH g1 2).length q2)).setCell ⟨b,8,none⟩ (.slice a3 (lsH g1 3).length q3)).setCell ⟨b,9,none⟩ (.slice a4 (lsH g1 4).length q4)):=⟨_,rfl⟩;rw[←hW3];have hb3:W3.heap[b]? =some (.cells #[.int .u64 g1.base,.int .i64 g1.cap,.int .i64 g1.to,.bool g1.cycle,.int .i64 i,.slice (some ⟨g4,0,none⟩) g1.low.length q0,.slice a1 (lsH g1 1).length q1,.slice a2 (lsH g1 2).length q2,.slice a3 (lsH g1 3).length q3,.slice a4 (lsH g1 4).length q4] 25 (0,0)):=by rw[hW3];exact zT HW2.out.2.2.2 _ _ _ _ _ _ _ _ _ _
 have hot3: ∀c,c≠b→W3.heap[c]? =W2.heap[c]? :=fun c hc=>by rw[hW3];exact Zt hc _ _ _ _ _ _ _ _ _ _
 have hz3:W3.heap.size=W2.heap.size:=by rw[hW3];simp[World.setCell]
 have hbz:Below 0 W2 W3:=by rw[hW3];exact Zh (Z8E _ _) (Z9n _) _ _ _ _ _ _ _ _ _ _
 have hgr3:W2.grownBy W3 (some b):=⟨hbz.os,hbz.tape,hbz.output,hbz.size,fun c _ hc=>hot3 c (fun e=>hc (by rw[e]))⟩;clear hW3;have hown3:HOwn W.heap.size W3 g1 x9:=⟨fun j hj=>Ze (HW2.out.2.1.own j hj) fun c hc=>hot3 c (by have:=((HW2.out.2.1.own j hj).lt c hc).1;omega),HW2.out.2.1.apart⟩;have ho4:=hown3.own 0 (by omega);rw[HO.out.2.2.1,show(lsH g1 0).length=g1.low.length from rfl]at ho4;obtain⟨z0,hz0⟩: ∃z0,g1.low[i]? =some z0:=⟨_,Z8n h1l⟩
 have ec:W3.cell? ⟨g4,i,none⟩=some (.int .u64 z0):=by
  rw[ho4.cellAt i (by omega)];simp[nums,lsH,hz0]
 have ef:W3.frozen? ⟨g4,i,none⟩=false:=ho4.frozenAt i;have y3: ∀j,W3.cell? ⟨b,j,none⟩=(#[.int .u64 g1.base,.int .i64 g1.cap,.int .i64 g1.to,.bool g1.cycle,.int .i64 i,.slice (some ⟨g4,0,none⟩) g1.low.length q0,.slice a1 (lsH g1 1).length q1,.slice a2 (lsH g1 2).length q2,.slice a3 (lsH g1 3).length q3,.slice a4 (lsH g1 4).length q4]:Array Value)[j]? :=fun j=>Z8s _ _ _ _ _ _ hb3;have hi1:((i:Int) < (g1.low.length:Int))=True:=ZaJ (by omega);have HW3:=Z8r (And.intro hb3 (And.intro hot3 (And.intro hz3 (And.intro hgr3 (And.intro hown3 ho4)))));clear hb3 hot3 hz3 hgr3 hown3 ho4 y7 yb2 fb2 hz0;go_upto_region 8 with fail;have hg4b:g4≠b:=by omega
 obtain⟨hs1,hs2⟩:=HW3.out.2.2.2.2.2.stored i (.int .u64 v);have oth4: ∀c,c≠g4→(W3.setCell ⟨g4,i,none⟩ (.int .u64 v)).heap[c]? =W3.heap[c]? :=fun c hc=>Z8I _ _ _ _ hc;have hz4:(W3.setCell ⟨g4,i,none⟩ (.int .u64 v)).heap.size=W3.heap.size:=by simp[World.setCell]
 have hb4:=(oth4 b (Zab hg4b)).trans HW3.out.1
 have S4:NowI B (W3.setCell ⟨g4,i,none⟩ (.int .u64 v)) b {g1 with low:=g1.low.set i v} x9:=by
  refine⟨HS.out.le,?_,fun j hj=> ?_⟩
  ·rw[hb4];unfold hpC;rw[HO.out.2.2.1,HO.out.2.2.2.1,HO.out.2.2.2.2.1,HO.out.2.2.2.2.2.1,HO.out.2.2.2.2.2.2];simp only[h1s]
  ·have hin: ∀c,W.heap.size≤c→c< (W3.setCell ⟨g4,i,none⟩ (.int .u64 v)).heap.size→B c∧c< (W3.setCell ⟨g4,i,none⟩ (.int .u64 v)).heap.size∧c≠b:=fun c h1 h2=>⟨HBW.out c h1,h2,by omega⟩;by_cases e:j=0
   ·subst e;have hn:nums .u64 (g1.low.set i v)=(nums .u64 (lsH g1 0)).set i (.int .u64 v):=Vp _ _ _ _;rw[←hn]at hs1;show Rd _ _ (.sl ((g1.low.set i v).map vu)) (x9 0);rw[HO.out.2.2.1];have hl4:g1.low.length=(g1.low.set i v).length:=by rw[Z9y]
    have hs3:(W3.setCell ⟨g4,i,none⟩ (.int .u64 v)).ownsRow W.heap.size 22 1 (.slice (some ⟨g4,0,none⟩) g1.low.length q0) (g1.low.set i v).length (nums .u64 (g1.low.set i v)):=by rw[←hl4];exact hs1
    exact Vc hs3 hin
   ·have hj4:lsH {g1 with low:=g1.low.set i v} j=lsH g1 j:=by
     have:j=1∨j=2∨j=3∨j=4:=by omega
     rcases this with rfl|rfl|rfl|rfl<;>rfl
    rw[hj4];refine Vc (Ze (HW3.out.2.2.2.2.1.own j hj) fun c hc=>oth4 c fun e2=> ?_) hin;exact HW3.out.2.2.2.2.1.apart 0 j (by omega) hj c (by rw[e2,HO.out.2.2.1];rfl) hc
 have G4:W.grownBy (W3.setCell ⟨g4,i,none⟩ (.int .u64 v)) (some b):=by
  have g2:=YJ HW2.out.1 (some b);have g3:=Ya g2 HW3.out.2.2.2.1;refine⟨g3.os,g3.tape,g3.output,by rw[hz4];exact g3.size,fun c hc hn=> ?_⟩;rw[oth4 c (by omega)];exact g3.block c hc hn
 obtain⟨W4,hW4⟩: ∃W4,W4=W3.setCell ⟨g4,i,none⟩ (.int .u64 v):=⟨_,rfl⟩;rw[←hW4]at S4 G4 hb4⊢;clear hW4 oth4 hz4 hs1 hs2;have y4: ∀j,W4.cell? ⟨b,j,none⟩=(#[.int .u64 g1.base,.int .i64 g1.cap,.int .i64 g1.to,.bool g1.cycle,.int .i64 i,.slice (some ⟨g4,0,none⟩) g1.low.length q0,.slice a1 (lsH g1 1).length q1,.slice a2 (lsH g1 2).length q2,.slice a3 (lsH g1 3).length q3,.slice a4 (lsH g1 4).length q4]:Array Value)[j]? :=fun j=>Z8s _ _ _ _ _ _ hb4;have fb4: ∀j,W4.frozen? ⟨b,j,none⟩=false:=fun j=>Zk hb4;have HS4:=Z8r (And.intro S4 G4);clear S4 G4 hb4 ec ef y3;by_cases hend:i+1=g1.low.length
 ·have hendI:((i:Int)+1==(g1.low.length:Int))=true:=by simp;omega
  have HEND:=Z8r hend;clear hend;go_wp2;refine Z8K (v:= .int .i64 0) (by simp[results,Try.results79,go_sem]) rfl ?_
  have he:Yy {g1 with low:=g1.low.set i v,scan:=(i:Int)+1}= {g1 with low:=g1.low.set i v,scan:=(i:Int)+1,cycle:=false,old:= [],far:= []}:=by
   unfold Yy;rw[if_pos (by show(i:Int)+1=((g1.low.set i v).length:Int);rw[Z9y];have:=HEND.out;omega)]
  rw[he];obtain⟨p1,p2⟩:=Z2I HS4.out.1 ((i:Int)+1);obtain⟨p3,p4⟩:=Z21 p2;exact⟨rfl,Ya (Ya HS4.out.2 p1) p3,_,p4⟩
 ·have hendI:((i:Int)+1==(g1.low.length:Int))=false:=by simp;omega
  have HEND:=Z8r hend;clear hend;go_wp2;refine Z8K (v:= .int .i64 0) (by simp[results,Try.results79,go_sem]) rfl ?_
  have he:Yy {g1 with low:=g1.low.set i v,scan:=(i:Int)+1}= {g1 with low:=g1.low.set i v,scan:=(i:Int)+1}:=by
   unfold Yy;rw[if_neg (by show ¬(i:Int)+1=((g1.low.set i v).length:Int);rw[Z9y];have:=HEND.out;omega)]
  rw[he];obtain⟨p1,p2⟩:=Z2I HS4.out.1 ((i:Int)+1);exact⟨rfl,Ya HS4.out.2 p1,_,p2⟩
end Vm
end
section
namespace Vm
open Go Go.Proofs Go.RowKit
set_option maxHeartbeats 1000000
set_option maxRecDepth 100000
theorem Z20{g:Hp}{p:Pts}(r:Rt g p){i:Nat}(hi:g.scan=i)(hp:Yz p.low i=true){u:Int}(hu:g.low[i]? =some u):Gos g p u 1 2∨Gos g p u 3 4:=by
 obtain⟨o,ho,h1,h2⟩:=YW.1 hp;obtain⟨a,n,m,ea,en,em,hal,_,hmn⟩:=r.toTld.ob (k:=1) (by omega) ho;have hg:o.gone=false:=(r.tiles 1 (by omega)).no_gone o ho;obtain⟨j,hj⟩: ∃j,i=a+1+j:=⟨i-a-1,by omega⟩;have:=r.ptr 1 (by omega) o ho hg j (by omega) u (by rw[ea,Z8B,←hj];exact hu);unfold X0 at this;rw[if_neg (by omega),if_pos ⟨rfl,by rw[ea,Z8B,←hj];omega⟩]at this;exact this
theorem Z1c{l:List Int}{i:Nat}{u:Int}(h:l[i]? =some u):l.set i u=l:=by
 apply ZaP;intro j;rw[List.getElem?_set];by_cases e:i=j
 ·subst e;rw[if_pos rfl,h,if_pos (Z8o.1 h).1]
 ·rw[if_neg e]
theorem Z0H(W:World)(B:Nat→Prop)(b:Nat)(hBW: ∀c,W.heap.size≤c→B c)(g:Hp)(x:Nat→Value)(S:NowI B W b g x)(gok:g.ok){p:Pts}(r:Rt g p)(hc:g.cycle=true):
  Calls Try.prog 79 #[.bool (Yz p.low g.scan),.pointer (some ⟨b,0,none⟩)] W (Sy B W b (Wo g)):=by
 obtain⟨i,hi⟩:=Z8H r.scan0;have hil:i<g.low.length:=by have:=r.cyc hc;omega
 have hw:=r.walk;obtain⟨u,hu⟩: ∃u,g.low[i]? =some u:=⟨_,Z8n hil⟩;have hgd:(g.low[g.scan.toNat]?).getD 0=u:=by rw[hi,Z8B,hu];rfl
 cases hp:Yz p.low g.scan with
 |false=>
  have he:Wo g=Yy {g with scan:=(i:Int)+1}:=by
   unfold Wo;rw[hw,if_neg (by rw[hp];simp),hi]
  rw[he];exact zE W B b g x S gok i hi hil false (.inl rfl)
 |true=>
  have he:Wo g=Yy {(fwd g u).2.1 with low:=(fwd g u).2.1.low.set i (fwd g u).1,scan:=(i:Int)+1}:=by
   unfold Wo;rw[hw,if_pos hp,hgd,hi,Z8B]
  by_cases hu0:u=0
  ·subst hu0
   have:Wo g=Yy {g with scan:=(i:Int)+1}:=by
    rw[he,TS r.lay];simp only;rw[Z1c hu]
   rw[this];exact zE W B b g x S gok i hi hil true (.inr hu)
  ·obtain⟨v,g1,q1,f⟩:=r.toBody.forward (r.once hc) r.scanL (Z20 r hi (by rw[←hi];exact hp) hu);rw[he,f.fwd];obtain⟨ws,hws⟩:=f.ext.low;exact Z3L W B b hBW g x S gok i hi hil hu hu0 f.fwd (by rw[hws,Z8W];omega) (by rw[f.ext.scan];exact hi)
end Vm
end
section
namespace Vm
open Go Go.Proofs Go.RowKit
def SeqS{α:Type}(F:Fence)(n:Nat)(P:Program)(g:Nat)(lb:Array Value)(encs:α→Array Value)(Kp:World→World→Prop)(Px:List α→α→World→Prop)(S:List α→World→Prop)(N:Nat)(Ex:List α→World→Prop)(w:World):Prop:=
 ∀(l:Nat) (J Jx:List α→World→Prop) (W:World),Below w.heap.size w W→(∀pre W,J pre W→Ex pre W)→AbidesFrom W.heap.size J→AbidesFrom W.heap.size Jx→
  (∀pre x W1,J pre W1→Px pre x W1→pre.length<N→YieldAt F (n-1) P l (encs x) W1 fun e W'=>
   (e= .returned (.bool true)∧J (pre++ [x]) W'∧Kp W1 W')∨(e= .returned (.bool false)∧Jx (pre++ [x]) W'))→
  J [] W→
  CallsIn F n P g (#[.func (.yield l) #[] #[]]++lb) W fun e W'=>(∃v,e= .returned v)∧((∃xs,S xs W'∧J xs W')∨(∃pre,Jx pre W'))
variable {F:Fence} {n:Nat} {P:Program}
theorem TA{α:Type}{g:Operand}{ps:Array Tmp}{assign body:Code}{Q:Exit→Act→World→Prop}{a:Act}{w:World}
  (hro:F.round=none) (h1:1≤n) {gf:Nat} {lb:Array Value} (hg:a.eval g= .func (.func gf) #[] lb) (hFg:F.fn gf) (eg: ∀args w,(callFunc gf args).run P w= .ok (.enter gf args) w)
  {encs:α→Array Value} {Kp:World→World→Prop} {Px:List α→α→World→Prop} {S:List α→World→Prop} {N:Nat} {Ex:List α→World→Prop} {w0:World} (hseq:SeqS F (n-1) P gf lb encs Kp Px S N Ex w0)
  (hKt: ∀ {A B C:World},Kp A B→Kp B C→Kp A C) (hKb: ∀(W:World) (l:Nat) (o o':Obj),w.heap.size≤l→W.heap[l]? =some o→o.isCells=false→o.isWalk=false→Kp W (W.putObj l o')) (hb0:Below w0.heap.size w0 w) (hps: ∀x,(encs x).size=ps.size)
  (I:List α→World→Prop) (Ix:Code→List α→World→Prop) (hI:OwnFrom w.heap.size I) (hEx: ∀pre W,I pre W→Ex pre W) (hIx: ∀c,OwnFrom w.heap.size (Ix c)) (hPx: ∀pre x,OwnFrom w.heap.size (fun(_:Unit) W=>Px pre x W)) (hS:OwnFrom w.heap.size S) (h0:I [] w) (a₁:α→Act)
  (hassign: ∀(l:Nat) (x:α) (W:World) (K:Act→World→Prop),K (a₁ x) W→
   assign.wpIn (F.inRound l) (n-1-1) P (Exit.then K (fun _ _ _=>False)) {tmps:=(ps.zip (encs x)).foldl (fun t (p,v)=>t.setIfInBounds p v) a.tmps,defers:= []} W)
  (hbody: ∀(l:Nat) (pre:List α) (x:α) (W:World),I pre W→Px pre x W→pre.length<N→body.wpIn (F.inRound l) (n-1-1) P (ownPostG w.heap.size Kp I Ix (pre++ [x]) W) (a₁ x) W)
  (hdone: ∀(D:Nat) (xs:List α) (W:World),w.heap.size≤D→S xs W→I xs W→W.heap[D]? =some (.deferred (some []))→Q .normal {a with defers:= {target:= .collected D,args:= #[]}::a.defers} W)
  (hstop: ∀(D:Nat) (c:Code) (pre:List α) (W:World),w.heap.size≤D→Ix c pre W→W.heap[D]? =some (.deferred (some []))→c.wpIn F n P Q {a with defers:= {target:= .collected D,args:= #[]}::a.defers} W):
  (Code.rangeFunc g ps assign body).wpIn F n P Q a w:=by
 refine wpIn_rangeFunc fun fn hfn=> ?_;rw[hro];obtain⟨rec,hrec⟩: ∃rec:LoopState→Option Code→Loop,rec=fun st pe=> {state:=st,pending:=pe,fn,tmps:=a.tmps,params:=ps,assign,body,defers:=w.heap.size}:=⟨_,rfl⟩;obtain⟨W1,hW1⟩: ∃W1,(w.alloc (.deferred (some []))).alloc (.loop (rec .ready none))=W1:=⟨_,rfl⟩
 have hL1:W1.heap[w.heap.size+1]? =some (.loop (rec .ready none)):=by
  have:=Z9C (w.alloc (.deferred (some []))) (.loop (rec .ready none));rw[Za2]at this;rw[←hW1];exact this
 have hK1:W1.heap[w.heap.size]? =some (.deferred (some [])):=by
  rw[←hW1];exact(Z8t _ _ _ (by simp)).trans (Z9C w _)
 have hI1:I [] W1:=by rw[←hW1];exact hI.alloc _ (hI.alloc _ h0)
 have hb1:Below w0.heap.size w0 W1:=by
  rw[←hW1];exact hb0.trans ((((Z8E _ w).alloc (Z8v _) _).alloc (by simp) _).mono hb0.size)
 refine⟨w.heap.size+1,[{target:= .collected w.heap.size,args:= #[]}],W1,{target:= .fn (.func gf) lb,args:= #[.func (.yield (w.heap.size+1)) #[] #[]]},W1,gf,
  #[.func (.yield (w.heap.size+1)) #[] #[]]++lb,W1,?_,?_,?_,?_,fun _=>h1,?_⟩
 ·rw[←hW1,hrec];exact run_enterLoop_outer _ _ _ _ _
 ·simp only[resolve,hg];simp[go_sem]
 ·intro f' hf';simp[Target.leads]at hf';subst hf';exact hFg
 ·simp[invoke,go_sem,eg]
 have hnw: ∀ {A B:World} {row:Option Nat},(∀r,row=some r→W1.heap.size≤r∧ ∃o:Obj,A.heap[r]? =some o∧o.isWalk=true)→(∀r,row=some r→w.heap.size≤r∧ ∃o:Obj,A.heap[r]? =some o∧o.isCells=false):=
  fun hr r e=>by obtain⟨hB,o,ho,hw⟩:=hr r e;exact⟨by rw[←hW1]at hB;simp at hB;omega,o,ho,Obj.not_cells_of_walk hw⟩
 refine(hseq (w.heap.size+1)
  (fun pre W=>I pre W∧W.heap[w.heap.size+1]? =some (.loop (rec .ready none))∧W.heap[w.heap.size]? =some (.deferred (some [])))
  (fun pre W=> ∃c,Ix c pre W∧W.heap[w.heap.size+1]? =some (.loop (rec .done (some c)))∧W.heap[w.heap.size]? =some (.deferred (some [])))
  W1 hb1 (fun pre W h=>hEx pre W h.1)
  (fun s A B row hs hg' hr=>⟨hI s A B row hs.1 hg' (hnw (B:=B) hr),(ZbP hg' (fun r e=>(hr r e).2) hs.2.1 rfl).trans hs.2.1,(ZbP hg' (fun r e=>(hr r e).2) hs.2.2 rfl).trans hs.2.2⟩)
  (fun s A B row hs hg' hr=>by
   obtain⟨c,hc,hl,hk⟩:=hs;exact⟨c,hIx c s A B row hc hg' (hnw (B:=B) hr),(ZbP hg' (fun r e=>(hr r e).2) hl rfl).trans hl,(ZbP hg' (fun r e=>(hr r e).2) hk rfl).trans hk⟩)
  ?_ ⟨hI1,hL1,hK1⟩).mono ?_
 ·rintro pre x W ⟨hi,hl,hk⟩ hpx hlen;have hlt:w.heap.size+1<W.heap.size:=(Z8Z.1 hl).1;have hy:=run_yield (P:=P) (args:=encs x) hl (by rw[hrec];exact hps x);rw[hrec]at hy;refine⟨fn,_,assign,body,hy,roundIn_of_wpIn hfn (hassign _ x W _ ⟨_,run_beginRound hl (by rw[hrec]),?_⟩)⟩;have hl2:(W.putObj (w.heap.size+1) (.loop {rec .ready none with state:= .busy})).heap[w.heap.size+1]? =some (.loop {rec .ready none with state:= .busy}):=ZaI hlt;have hk2:(W.putObj (w.heap.size+1) (.loop {rec .ready none with state:= .busy})).heap[w.heap.size]? =some (.deferred (some [])):=(Z94 (by omega)).trans hk;have hw2:Kp W (W.putObj (w.heap.size+1) (.loop {rec .ready none with state:= .busy})):=hKb _ _ _ _ (by omega) hl rfl rfl;refine wpIn_mono (hbody _ pre x _ (hI.putObj _ hi (by omega) hl rfl) ((hPx pre x).putObj (s:=()) _ hpx (by omega) hl rfl) hlen) ?_
  have fin: ∀(jump:Option Code) (W3:World),KeepsFrom w.heap.size (W.putObj (w.heap.size+1) (.loop {rec .ready none with state:= .busy})) W3→
    (Instr.endRound (w.heap.size+1) jump).run P W3= .ok (.bool jump.isNone) (W3.putObj (w.heap.size+1) (.loop (rec (if jump.isNone then .ready else .done) jump)))∧
    W3.heap[w.heap.size+1]? =some (.loop {rec .ready none with state:= .busy})∧
    (W3.putObj (w.heap.size+1) (.loop (rec (if jump.isNone then .ready else .done) jump))).heap[w.heap.size+1]? =some (.loop (rec (if jump.isNone then .ready else .done) jump))∧
    (W3.putObj (w.heap.size+1) (.loop (rec (if jump.isNone then .ready else .done) jump))).heap[w.heap.size]? =some (.deferred (some [])):=fun jump W3 hk3=>by
   have hl3:=hk3.same _ _ (by omega) hl2 rfl;have:=run_endRound (P:=P) jump hl3;rw[hrec]at this⊢;exact⟨this,by rw[hrec]at hl3;exact hl3,ZaI (Z8Z.1 hl3).1,(Z94 (by omega)).trans (hk3.same _ _ (Z8v _) hk2 rfl)⟩
  rintro e a3 W3 hp;cases e with
  |normal=>
   obtain⟨hk3,hkp3,hi3⟩:=hp;obtain⟨hr,hl3,hl4,hk4⟩:=fin none W3 hk3;exact⟨_,_,hr,.inl ⟨rfl,⟨hI.putObj _ hi3 (by omega) hl3 rfl,hl4,hk4⟩,hKt (hKt hw2 hkp3) (hKb _ _ _ _ (by omega) hl3 rfl rfl)⟩⟩
  |ret=>
   obtain⟨hk3,hi3⟩:=hp;obtain⟨hr,hl3,hl4,hk4⟩:=fin (some .ret) W3 hk3;exact⟨_,_,hr,.inr ⟨rfl,.ret,(hIx _).putObj _ hi3 (by omega) hl3 rfl,hl4,hk4⟩⟩
  |exit id=>
   obtain⟨hk3,hi3⟩:=hp;obtain⟨hr,hl3,hl4,hk4⟩:=fin (some (.exit id)) W3 hk3;exact⟨_,_,hr,.inr ⟨rfl,.exit id,(hIx _).putObj _ hi3 (by omega) hl3 rfl,hl4,hk4⟩⟩
  |goto t=>
   obtain⟨hk3,hi3⟩:=hp;obtain⟨hr,hl3,hl4,hk4⟩:=fin (some (.goto t)) W3 hk3;exact⟨_,_,hr,.inr ⟨rfl,.goto t,(hIx _).putObj _ hi3 (by omega) hl3 rfl,hl4,hk4⟩⟩
  |panic ch=>exact hp.elim
  |outgrown=>exact hp.elim
 ·rintro e W2 ⟨⟨v,rfl⟩,(⟨xs,hSx,hi,hl,hk⟩ | ⟨pre,c,hi,hl,hk⟩)⟩
  ·exact⟨none,_,by have:=run_endLoop (P:=P) hl (by rw[hrec];simp);rw[hrec]at this;exact this,hdone _ xs _ (Z8v _) (hS.putObj _ hSx (by omega) hl rfl) (hI.putObj _ hi (by omega) hl rfl) ((Z94 (by omega)).trans hk)⟩
  ·exact⟨some c,_,by have:=run_endLoop (P:=P) hl (by rw[hrec];simp);rw[hrec]at this;exact this,hstop _ c pre _ (Z8v _) ((hIx c).putObj _ hi (by omega) hl rfl) ((Z94 (by omega)).trans hk)⟩
end Vm
end
section
namespace Vm
open Go Go.Proofs Go.RowKit
set_option maxHeartbeats 1000000
set_option maxRecDepth 100000
theorem Lf{W:World}{G G':Nat→Prop}{l l':List Int}{y:Value}(h:Rd W G (.sl (l.map vu)) y)(h':Rd W G' (.sl (l'.map vu)) y):l=l':=by
 obtain⟨a,c,e⟩:=Rd.slfT h;obtain⟨a',c',e'⟩:=Rd.slfT h';have hl:l.length=l'.length:=by rw[e]at e';simp at e';exact e'.2.1
 apply ZaP;intro k;cases hu:l[k]? with
 |none=>rw[ZaT]at hu;rw[Z9x (by omega)]
 |some u=>
  have hk:=(Z8o.1 hu).1;obtain⟨u',hu'⟩: ∃u',l'[k]? =some u':=⟨_,Z8n (by omega)⟩;obtain⟨b,o,cap,e1,c1,_⟩:=Us h hu;obtain⟨b',o',cap',e1',c1',_⟩:=Us h' hu';rw[e1]at e1';simp at e1';obtain⟨⟨rfl,rfl⟩,_,_⟩:=e1';rw[c1]at c1';cases c1';exact hu'.symm
theorem Z2c{W W':World}{B:Nat→Prop}{b:Nat}{row:Option Nat}{l:List Int}{y:Value}(h:Rd W (fun c=>B c∧c<W.heap.size∧c≠b) (.sl (l.map vu)) y)(hg:W.grownBy W' row)(hr: ∀r,row=some r→ ∃o:Obj,W.heap[r]? =some o∧o.isCells=false):
  Rd W' (fun c=>B c∧c<W'.heap.size∧c≠b) (.sl (l.map vu)) y:=by
 generalize hL:l.map vu=L at h⊢;cases h with
 |nil a cap hc=>exact .nil a cap hc
 |sl _ d o cap k vs h1 h2 h3 h4 h5 h6=>
  refine .sl _ d o cap k vs h1 h2 ⟨h3.1,Z8z h3.2.1 hg.size,h3.2.2⟩ h4 (fun i hi=> ?_) (fun i c hc=> ?_)
  ·have hc:=h5 i hi;rw[←hc];refine Z9v (a:=⟨d,o+i,none⟩) (hg.block d h3.2.1 fun e=> ?_);obtain⟨ob,ho,hn⟩:=hr d e.symm;unfold World.cell? at hc;rw[ho]at hc;cases ob<;>simp_all [Obj.isCells]
  ·have h7:=h6 i c hc;rw[←hL,Uc,Z8D]at hc;cases hu:l[i]? with
   |none=>rw[hu]at hc;cases hc
   |some u=>
    rw[hu]at hc;cases hc;rw[Ye h7];exact .int _ _
theorem NowI.abide{B:Nat→Prop}{W W':World}{b:Nat}{g:Hp}{x:Nat→Value}{row:Option Nat}(S:NowI B W b g x)(hg:W.grownBy W' row)(hr: ∀r,row=some r→ ∃o:Obj,W.heap[r]? =some o∧o.isCells=false):NowI B W' b g x:=
 ⟨S.le,(hg.block b (Za S.nb) fun e=>by obtain⟨o,ho,hn⟩:=hr b e.symm;rw[S.nb]at ho;cases ho;cases hn).trans S.nb,fun j hj=>Z2c (S.rd j hj) hg hr⟩
theorem NowI.uniq{B B':Nat→Prop}{W:World}{b:Nat}{g g':Hp}{x x':Nat→Value}(S:NowI B W b g x)(S':NowI B' W b g' x'):g'=g:=by
 have e:=S.nb.symm.trans S'.nb;unfold hpC at e;simp at e;obtain⟨e0,e1,e2,e3,e4,e5,e6,e7,e8,e9⟩:=e
 have q: ∀j,j<5→lsH g' j=lsH g j:=fun j hj=>by
  have h1:=S.rd j hj;have h2:=S'.rd j hj
  have ex:x j=x' j:=by
   have:j=0∨j=1∨j=2∨j=3∨j=4:=by omega
   rcases this with rfl|rfl|rfl|rfl|rfl<;>assumption
  rw[ex]at h1;exact Lf h2 h1
 have q0:=q 0 (by omega);have q1:=q 1 (by omega);have q2:=q 2 (by omega);have q3:=q 3 (by omega);have q4:=q 4 (by omega);cases g;cases g';simp[lsH]at*;simp_all
def InBox(B:Nat→Prop)(b:Nat)(p:Pts)(W:World):Prop:= ∃g x,NowI B W b g x∧g.ok∧Rt g p
theorem InBox.abide{B:Nat→Prop}{W W':World}{b:Nat}{p:Pts}{row:Option Nat}(S:InBox B b p W)(hg:W.grownBy W' row)(hr: ∀r,row=some r→ ∃o:Obj,W.heap[r]? =some o∧o.isCells=false):InBox B b p W':=by
 obtain⟨g,x,h1,h2,h3⟩:=S;exact⟨g,x,h1.abide hg hr,h2,h3⟩
theorem InBox.low{B B':Nat→Prop}{W:World}{b:Nat}{p p':Pts}(S:InBox B b p W)(S':InBox B' b p' W):p'.low=p.low:=by
 obtain⟨g,x,h1,h2,h3⟩:=S;obtain⟨g',x',h1',h2',h3'⟩:=S';have:=h1.uniq h1';subst this;exact Tiles.uniq0 (h3.tiles 1 (by omega)) (h3'.tiles 1 (by omega))
structure KpN (B:Nat→Prop) (b kb:Nat) (A C:World):Prop where
 size:A.heap.size≤C.heap.size
 same: ∀(c:Nat) (o:Obj),A.heap[c]? =some o→o.isCells=true→c≠b→c≠kb→C.heap[c]? =some o
 low: ∀p,InBox B b p A→ ∃q r,InBox B b q C∧q.low=p.low++r
theorem KpN.trans{B:Nat→Prop}{b kb:Nat}{X Y Z:World}(h:KpN B b kb X Y)(k:KpN B b kb Y Z):KpN B b kb X Z:=
 ⟨Z8Y h.size k.size,fun c o h1 h2 h3 h4=>k.same c o (h.same c o h1 h2 h3 h4) h2 h3 h4,fun p hp=>by
  obtain⟨q,r,h1,h2⟩:=h.low p hp;obtain⟨s,t,k1,k2⟩:=k.low q h1;exact⟨s,r++t,k1,by rw[k2,h2,Z92]⟩⟩
theorem KpN.put{B:Nat→Prop}{b kb:Nat}{W:World}{l:Nat}{o:Obj}(o':Obj)(hl:W.heap[l]? =some o)(ho:o.isCells=false):KpN B b kb W (W.putObj l o'):=by
 have hg:=ZaO W l o';have hr: ∀r,some l=some r→ ∃o:Obj,W.heap[r]? =some o∧o.isCells=false:=fun r e=>by cases e;exact⟨o,hl,ho⟩
 refine⟨hg.size,fun c q h1 h2 _ _=>(Z94 (fun e=> ?_)).trans h1,fun p hp=>⟨p,[],hp.abide hg hr,by simp⟩⟩;subst e;rw[hl]at h1;cases h1;rw[ho]at h2;cases h2
theorem yP{ws:List Int}{l:List Ob}(t:Tiles ws false 0 l){o:Ob}(ho:o∈l){i:Int}(h1:o.at_≤i)(h2:i≤o.at_+o.size):Yz l i=(decide (o.at_<i)&&decide (i≤o.at_+o.ptrs)):=by
 rw[Zc6,YW];simp only[Z8u,Z8L];constructor
 ·rintro⟨x,hx,k1,k2⟩;have hs:=Z4.1 (t.stands x hx).1.shape;rcases t.apart x hx o ho with e|e|e
  ·subst e;exact⟨k1,k2⟩
  ·omega
  ·omega
 ·exact fun h=>⟨o,ho,h⟩
def kwA(x:Nat×Bool):Array Value:= #[.int .i64 (x.1:Nat),.bool x.2]
def PxN(B:Nat→Prop)(b:Nat)(pre:List (Nat×Bool))(x:Nat×Bool)(W:World):Prop:= ∃p,InBox B b p W∧x=(pre.length,Yz p.low pre.length)
def SN(B:Nat→Prop)(b:Nat)(xs:List (Nat×Bool))(W:World):Prop:= ∃g x,NowI B W b g x∧g.low.length≤xs.length
structure KnI (B:Nat→Prop) (b bk:Nat) (q:Pts) (W:World):Prop where
 bx:W.heap[bk]? =some (.cells #[.pointer (some ⟨b,0,none⟩)] 137 (0,0))
 inb:InBox B b q W
theorem KnI.grown{B:Nat→Prop}{b bk:Nat}{q:Pts}{W W':World}(h:KnI B b bk q W)(hg:W.grownBy W' none):KnI B b bk q W':=
 ⟨(hg.block _ (Za h.bx) (by simp)).trans h.bx,h.inb.abide hg (fun r e=>by cases e)⟩
end Vm
end
section
namespace Vm
open Go Go.Proofs Go.RowKit Go.Shelf
set_option maxHeartbeats 4000000
set_option maxRecDepth 100000
theorem qK(n:Nat){w:World}{B:Nat→Prop}{b bk kb:Nat}{p0:Pts}(hI:KnI B b bk p0 w)(hbb:bk≠b)(hbkb:bk≠kb)(hb:b<w.heap.size)(hkb:kb<w.heap.size):
  SeqS Fence.wide n Try.prog 104 #[.pointer (some ⟨bk,0,none⟩)] kwA (KpN B b kb) (PxN B b) (SN B b) 1000001 (fun _ _=>True) w:=by
 intro l J Jx W hW _ hJ hJx hY h0;refine callsIn_of_wp Try.func104 rfl trivial ?_ rfl;simp only[Try.ntmps104,Z9F,Z9o,Z9L,Nat.reduceAdd,Nat.reduceSub,Zad,Zae,Zay,Zam,Z9d,Z9s];have HI0:=Z8r (hI.grown (YJ hW none));have HW0:=hW.size;have HJ0:=Z8r h0;have hkn: ∀ {A:World},w.heap.size≤A.heap.size→A.heap.size≠b∧A.heap.size≠kb:=fun h=>⟨by omega,by omega⟩;clear h0
 gi_wp2
 gi_loopw [3] (fun p wr=> ∃(a:Nat),p= .int .i64 a∧Hid (∃(pre:List (Nat×Bool)) (q:Pts) (n:Nat),J pre wr∧KnI B b bk q wr∧W.heap.size≤wr.heap.size∧n≤q.low.length∧a=szL (q.low.take n)∧pre.length=a))
  (fun p _=>1000001- (intOf p).toNat)
 case atStart=>exact⟨0,rfl,Z8r ⟨[],p0,0,HJ0.out,HI0.out,Z8v _,by omega,rfl,rfl⟩⟩
 case round=>
  obtain⟨a,rfl,HI⟩:=hrel;obtain⟨pre,q,n1,hJ1,hK1,hs1,hn1,ha1,hp1⟩:=HI.out;obtain⟨g,x,S,gok,r⟩:=hK1.inb;obtain⟨sa,sc,hx0⟩:=Rd.slfT (S.rd 0 (by omega));rw[Z8P,show(lsH g 0).length=g.low.length from rfl]at hx0;have hnb:=S.nb;unfold hpC at hnb;rw[hx0]at hnb;have y0:wr.cell? ⟨bk,0,none⟩=some (.pointer (some ⟨b,0,none⟩)):=by rw[Z8s _ _ _ _ _ _ hK1.bx];rfl
  have yb: ∀j,wr.cell? ⟨b,j,none⟩=(#[.int .u64 g.base,.int .i64 g.cap,.int .i64 g.to,.bool g.cycle,.int .i64 g.scan,.slice sa g.low.length sc,x 1,x 2,x 3,x 4]:Array Value)[j]? :=fun j=>Z8s _ _ _ _ _ _ hnb;have t1:=r.tiles 1 (by omega);simp only[YQ,Pts.at1]at t1;have hll:=gok.low;have hsum:=t1.sum (Z9n _);by_cases hlt:a<g.low.length
  ·have hltI:((a:Int) < (g.low.length:Int))=True:=ZaJ (by omega)
   obtain⟨o,ho⟩: ∃o,q.low[n1]? =some o:=by
    refine⟨_,Z8n (Nat.lt_of_le_of_ne hn1 fun e=> ?_)⟩;rw[e,Za1]at ha1;omega
   have hoa:=t1.place ho;rw[Z97,←ha1]at hoa;have hom:=Z8x ho;have hst:=(t1.stands o hom).1;have hsh:=Z4.1 hst.shape;have hgone:=t1.no_gone o hom;have hfit:=hst.fits;obtain⟨u,hu,hun⟩:=hst.word;rw[hgone,if_neg (by simp)]at hun;replace hun:=hun.2.1;rw[hoa,Z8B]at hu;have huu:=gok.lowW u (Z8x hu);obtain⟨gb,go,cap,hx1,hcell,hgG⟩:=Us (S.rd 0 (by omega)) hu;rw[hx0]at hx1;rw[show(lsH g 0).length=g.low.length from rfl]at hx1;simp only[Value.slice.injEq,true_and]at hx1;obtain⟨rfl,rfl⟩:=hx1;have huc:=X2 huu;rw[hun]at huc;obtain⟨m,hm⟩: ∃m:Nat,o.size=m:=⟨o.size.toNat,by omega⟩;obtain⟨pt,hpt⟩: ∃pt:Nat,o.ptrs=pt:=⟨o.ptrs.toNat,by omega⟩;rw[hm]at huc hfit hsh;rw[hpt]at huc hsh;have HUC:=Z8r huc;have HO:=Z8r (And.intro hom (And.intro hoa (And.intro hm (And.intro hpt (And.intro t1 (And.intro ho (And.intro hp1 hs1)))))));have HFit:=Z8r hfit;have HK1:=Z8r (And.intro hJ1 hK1);have HHL:=Z8r hll;have q1:IntKind.i64.wrap ((m:Int)+1)=((m+1:Nat):Int):=by rw[Z1 _ (by omega) (by omega)];omega
   clear huc hnb t1 hom hoa hun hu huu hx0 hgG hm hpt hfit ho hst hgone ha1 hsum S r hJ1 hK1 hp1 hs1 hll
   gi_wp2
   refine⟨trivial,fun h=>(by cases h),(Zas.2 (HUC.out _)).mono ?_⟩;rintro e w1 ⟨rfl,hb1⟩;have HB1:=Z8r hb1;clear hb1
   gi_wp2
   have hz1:=HB1.out.size;have hgA:wr.grownBy (w1.alloc (.cells #[.int .i64 m,.int .i64 pt] 47)) none:=Ya (YJ HB1.out none) (Z9K _ _ _);have HA:=Z8r (And.intro (hJ _ _ _ _ HK1.out.1 hgA (fun r e=>by cases e)) (And.intro (HK1.out.2.grown hgA) (And.intro (Z8C w1 (.cells #[.int .i64 m,.int .i64 pt] 47)) hgA.size)));have hT:W.heap.size≤w1.heap.size:=by have:=HO.out.2.2.2.2.2.2.2;omega
   have hTk:=hkn (A:=w1) (by omega);have hT2:W.heap.size≤(w1.alloc (.cells #[.int .i64 m,.int .i64 pt] 47)).heap.size:=by simp;omega
   clear hgA;generalize hw2:w1.alloc (.cells #[.int .i64 m,.int .i64 pt] 47)=w2 at*;have HFitI:=HFit.out;have HLL:=HHL.out
   gi_loopw [30] (fun iv wi=> ∃i:Nat,iv= .int .i64 i∧Hid (∃(pre':List (Nat×Bool)) (q':Pts) (r':List Ob),J pre' wi∧KnI B b bk q' wi∧w2.heap.size≤wi.heap.size∧q'.low=q.low++r'∧pre'.length=a+i∧i≤m+1∧wi.heap[w1.heap.size]? =some (.cells #[.int .i64 m,.int .i64 pt] 47 (0,0)))) (fun iv _=>m+1- (intOf iv).toNat)
   case atStart=>exact⟨0,rfl,Z8r ⟨pre,q,[],HA.out.1,HA.out.2.1,Z8v _,by simp,by have:=HO.out.2.2.2.2.2.2.1;omega,by omega,HA.out.2.2.1⟩⟩
   case round=>
    obtain⟨i,rfl,HJ⟩:=hrel;obtain⟨pre',q',r',hJ2,hK2,hs2,hq2,hp2,hi2,hb4⟩:=HJ.out;have d0:wr.cell? ⟨w1.heap.size,0,none⟩=some (.int .i64 m):=by rw[Z8s _ _ _ _ _ _ hb4];rfl
    have d1:wr.cell? ⟨w1.heap.size,1,none⟩=some (.int .i64 pt):=by rw[Z8s _ _ _ _ _ _ hb4];rfl
    by_cases him:i=m+1
    ·subst him;have hil:(((m+1:Nat):Int) < (m:Int)+1)=False:=Zan (by omega);have q2:IntKind.i64.wrap ((a:Int)+((m:Int)+1))=((a+(m+1):Nat):Int):=by rw[Z1 _ (by omega) (by omega)];omega
     clear hK2 hb4 hJ2
     gi_wp2
     obtain⟨k1,k2,k3,k4,k5,k6,k7⟩:=HO.out;obtain⟨pre',q',r',hJ2,hK2,hs2,hq2,hp2,hi2,hb4⟩:=HJ.out;have hlen:n1+1≤q.low.length:=by have:=(Z8o.1 k6).1;omega
     refine⟨⟨a+(m+1),by simp,Z8r ⟨pre',q',n1+1,hJ2,hK2,by omega,by rw[hq2,Z8W];omega,?_,by omega⟩⟩,by simp[intOf];omega⟩;rw[hq2,List.take_append_of_le_length hlen,Z26 k6,k3];have:=k5.place k6;omega
    ·have hil:((i:Int) < (m:Int)+1)=True:=ZaJ (by omega);obtain⟨k1,k2,k3,k4,k5,k6,k7,k8⟩:=HO.out;have hx:PxN B b pre' (a+i,Yz q'.low ((a+i:Nat):Int)) wr:=⟨q',hK2.inb,by rw[hp2]⟩;obtain⟨fn,tmps,assign,body,hy,hR⟩:=hY pre' _ wr hJ2 hx (by omega)
     have hq:Yz q'.low ((a+i:Nat):Int)=(decide (0<i)&&decide (i≤pt)):=by
      obtain⟨g',x',_,_,r2⟩:=hK2.inb;have t2:=r2.tiles 1 (by omega);simp only[YQ,Pts.at1]at t2;rw[yP t2 (o:=o) (by rw[hq2];exact Z9A _ k1) (by omega) (by omega),k2,k4];congr 1
      ·exact decide_eq_decide.2 (by omega)
      ·exact decide_eq_decide.2 (by omega)
     unfold kwA at hy;simp only[hq]at hy;have HQ:=Z8r (And.intro hq (And.intro hR (And.intro hs2 (And.intro hq2 (And.intro hp2 (And.intro hb4 hK2))))));have q2:IntKind.i64.wrap ((a:Int)+(i:Int))=((a+i:Nat):Int):=by rw[Z1 _ (by omega) (by omega)];omega
     have q3:IntKind.i64.wrap ((i:Int)+1)=((i+1:Nat):Int):=by rw[Z1 _ (by omega) (by omega)];omega
     clear hx hJ2 hK2 hq hR hb4 k1 k2 k3 k4 k5 k6 k7 k8 hq2 hp2
     have h3:(i=0∧(0<i)=False)∨(((0:Int) < (i:Int))=True∧(0<i)=True∧((i:Int)≤(pt:Int))=True∧(i≤pt)=True)∨(((0:Int) < (i:Int))=True∧(0<i)=True∧((i:Int)≤(pt:Int))=False∧(i≤pt)=False):=by
      by_cases h0:i=0
      ·exact .inl ⟨h0,Zan (by omega)⟩
      ·by_cases h1:i≤pt
       ·exact .inr (.inl ⟨ZaJ (by omega),ZaJ (by omega),ZaJ (by omega),ZaJ h1⟩)
       ·exact .inr (.inr ⟨ZaJ (by omega),ZaJ (by omega),Zan (by omega),Zan h1⟩)
     rcases h3 with ⟨h0,h1⟩ | ⟨h0,h1,h2,h3⟩ | ⟨h0,h1,h2,h3⟩
     ·subst h0;simp only[h1,Zbe,ZaL,Zci,Zaz,Zce,ZbJ,Za6,Zc8]at hy
      gi_wp2
      refine⟨fun h=>(by cases h),HQ.out.2.1.mono ?_⟩;rintro e W3 (⟨rfl,hJ3,hk3⟩ | ⟨rfl,hJx3⟩)
      ·have HJ3:=Z8r (And.intro hJ3 hk3);clear hJ3 hk3
       gi_wp2
       obtain⟨c1,c2,c3,c4,c5,c6,c7⟩:=HQ.out;obtain⟨q2',r2',i1,i2⟩:=HJ3.out.2.low q' c7.inb;refine⟨⟨1,by simp,Z8r ⟨pre'++ [_],q2',r'++r2',HJ3.out.1,⟨HJ3.out.2.same _ _ c7.bx rfl hbb hbkb,i1⟩,Z8Y c3 HJ3.out.2.size,by rw[i2,c4,Z92],by simp<;>omega,by omega,HJ3.out.2.same _ _ c6 rfl hTk.1 hTk.2⟩⟩,by simp[intOf]<;>omega⟩
      ·have HX3:=Z8r hJx3;clear hJx3
       gi_wp2
       refine Z8K (results_none rfl _ _ _) rfl ?_;exact⟨⟨_,rfl⟩,.inr ⟨_,HX3.out⟩⟩
     ·simp only[h1,h3,Zbe,ZaL,Zci,Zaz,Zce,ZbJ,Za6,Zc8]at hy
      gi_wp2
      refine⟨fun h=>(by cases h),HQ.out.2.1.mono ?_⟩;rintro e W3 (⟨rfl,hJ3,hk3⟩ | ⟨rfl,hJx3⟩)
      ·have HJ3:=Z8r (And.intro hJ3 hk3);clear hJ3 hk3
       gi_wp2
       obtain⟨c1,c2,c3,c4,c5,c6,c7⟩:=HQ.out;obtain⟨q2',r2',i1,i2⟩:=HJ3.out.2.low q' c7.inb;refine⟨⟨i+1,by simp,Z8r ⟨pre'++ [_],q2',r'++r2',HJ3.out.1,⟨HJ3.out.2.same _ _ c7.bx rfl hbb hbkb,i1⟩,Z8Y c3 HJ3.out.2.size,by rw[i2,c4,Z92],by simp<;>omega,by omega,HJ3.out.2.same _ _ c6 rfl hTk.1 hTk.2⟩⟩,by simp[intOf];omega⟩
      ·have HX3:=Z8r hJx3;clear hJx3
       gi_wp2
       refine Z8K (results_none rfl _ _ _) rfl ?_;exact⟨⟨_,rfl⟩,.inr ⟨_,HX3.out⟩⟩
     ·simp only[h1,h3,Zbe,ZaL,Zci,Zaz,Zce,ZbJ,Za6,Zc8]at hy
      gi_wp2
      refine⟨fun h=>(by cases h),HQ.out.2.1.mono ?_⟩;rintro e W3 (⟨rfl,hJ3,hk3⟩ | ⟨rfl,hJx3⟩)
      ·have HJ3:=Z8r (And.intro hJ3 hk3);clear hJ3 hk3
       gi_wp2
       obtain⟨c1,c2,c3,c4,c5,c6,c7⟩:=HQ.out;obtain⟨q2',r2',i1,i2⟩:=HJ3.out.2.low q' c7.inb;refine⟨⟨i+1,by simp,Z8r ⟨pre'++ [_],q2',r'++r2',HJ3.out.1,⟨HJ3.out.2.same _ _ c7.bx rfl hbb hbkb,i1⟩,Z8Y c3 HJ3.out.2.size,by rw[i2,c4,Z92],by simp<;>omega,by omega,HJ3.out.2.same _ _ c6 rfl hTk.1 hTk.2⟩⟩,by simp[intOf];omega⟩
      ·have HX3:=Z8r hJx3;clear hJx3
       gi_wp2
       refine Z8K (results_none rfl _ _ _) rfl ?_;exact⟨⟨_,rfl⟩,.inr ⟨_,HX3.out⟩⟩
  ·have hltI:((a:Int) < (g.low.length:Int))=False:=Zan (by omega);have HE:Hid (J pre wr∧SN B b pre wr):=Z8r ⟨hJ1,g,x,S,by omega⟩;clear hnb hJ1 S
   gi_wp2
   go_end0
   exact⟨⟨_,rfl⟩,.inl ⟨pre,HE.out.2,HE.out.1⟩⟩
end Vm
end
section
namespace Vm
open Go Go.Proofs Go.RowKit
set_option maxHeartbeats 40000000
set_option maxRecDepth 100000
theorem Z3n(w:World)(G:Nat→Prop)(hG: ∀b,G b→b<w.heap.size)(h:Hp)(hh:h.ok)(src:Nat→Value)(hs: ∀j,j<5→Rd w G (.sl ((lsH h j).map vu)) (src j)){p:Pts}(r:Rt h p)(hc:h.cycle=false):
  Calls Try.prog 17 #[hpA h src] w (X5 w (Y3 h,0)):=by
 have hR: ∀W,Below w.heap.size w W→Calls Try.prog 33 #[hpA h src] W fun e w'=>e= .returned (.bool (ZD h))∧Below W.heap.size W w':=fun W hb=>
  YD (w:=W) (G:=G) (x:=src) hh (fun b hb'=>Z8z (hG b hb') hb.size) (fun j hj=>(hs j hj).keep (fun b hb'=>hb.block b (hG b hb')) fun _ q=>q)
 rw[r.right]at hR;unfold hpA at hR;rw[hc]at hR;have HR:=Z8r hR;have HS:=Z8r hs;have HH:=Z8r hh;have HRT:=Z8r r;have HC:=Z8r hc;have hto:h.to=0∨h.to=1:=by have:=Zm.1 r.lay;exact this.2.2.2.2.1
 have wto:=Z1 (1-h.to) (by omega) (by omega);clear hR hs hh r hto;unfold hpA;rw[hc];clear hc;go_enter Try.func17,Try.ntmps17;go_wp2;refine KX 0 (fun a W=> ∃(c k:Nat) (x:Nat→Value),a.defers= []∧a.tmps.size=72∧a.tmps.getD 2 undef= .pointer (some ⟨w.heap.size+1,0,none⟩)∧a.tmps.getD 4 undef= .pointer (some ⟨c,0,none⟩)∧a.tmps.getD 5 undef= .int .i64 k∧k≤h.roots.length∧FlI w W c (VQ (Wi h) k) x) (fun a _=>h.roots.length- (intOf (a.tmps.getD 5 undef)).toNat) rfl ?_ ?_
 ·rintro a W ⟨c,k,x,hd,hsz,h2,h4,h5,hk,HI⟩;obtain⟨t,d⟩:=a;simp only at hd hsz h2 h4 h5;subst hd;obtain⟨u,hu⟩: ∃u:Nat→Value,∀i,t.getD i undef=u i:=⟨fun i=>t.getD i undef,fun _=>rfl⟩
  have et:t= #[u 0,u 1,u 2,u 3,u 4,u 5,u 6,u 7,u 8,u 9,u 10,u 11,u 12,u 13,u 14,u 15,u 16,u 17,u 18,u 19,u 20,u 21,u 22,u 23,u 24,u 25,u 26,u 27,u 28,u 29,u 30,u 31,u 32,u 33,u 34,u 35,u 36,u 37,u 38,u 39,u 40,u 41,u 42,u 43,u 44,u 45,u 46,u 47,u 48,u 49,u 50,u 51,u 52,u 53,u 54,u 55,u 56,u 57,u 58,u 59,u 60,u 61,u 62,u 63,u 64,u 65,u 66,u 67,u 68,u 69,u 70,u 71]:=(jB hsz).trans (by
   have e0:(fun i=>t.getD i undef)=u:=funext hu;rw[e0];rfl)
  rw[hu]at h2 h4 h5;rw[h2,h4,h5]at et;clear hu hsz h2 h4 h5;subst et;have HIH:=Z8r HI;clear HI;by_cases hlt:k<h.roots.length
  ·have hto:h.to=0∨h.to=1:=by have:=Zm.1 HRT.out.lay;exact this.2.2.2.2.1
   obtain⟨q,I⟩:=UK HRT.out HC.out k (by omega);obtain⟨⟨fv,g',q',f⟩,_⟩:=JC HRT.out hlt I;have gok:=Qe HH.out hto k;have hroot:(VQ (Wi h) k).roots[k]? =some h.roots[k]:=by rw[I.rest k (Z8v _)];exact Z8n hlt
   have hstep:VQ (Wi h) (k+1)= {g' with roots:=g'.roots.set k fv}:=by
    show yN (VQ (Wi h) k) k=_;unfold yN;rw[hroot,Z91,f.fwd]
   have hgl:(VQ (Wi h) k).roots.length=h.roots.length:=I.len;have er:g'.roots=(VQ (Wi h) k).roots:=f.ext.roots;have gok':g'.ok∧U64 fv:=by have:=Kk gok (HH.out.rootsW _ (Z8M hlt));rw[f.fwd]at this;exact this
   have hfwd:=f.fwd;have hu0:=HH.out.rootsW _ (Z8M hlt);clear I f;generalize VQ (Wi h) k=g at*;generalize h.roots[k]=u0 at*;obtain⟨gb,go,cap,hx4,hcell,hgG⟩:=Us (HIH.out.rd 4 (by omega)) hroot;rw[show(lsH g 4).length=g.roots.length from rfl,hgl]at hx4
   have hF: ∀W',Below W.heap.size W W'→Calls Try.prog 39 #[.agg #[.int .u64 g.base,.int .i64 g.cap,.int .i64 g.to,.bool g.cycle,.int .i64 g.scan,x 0,x 1,x 2,x 3,.slice (some ⟨gb,go,none⟩) h.roots.length cap],.int .u64 u0] W' (WY W' (fv,g',0)):=fun W' hb=>by
    have:=Vd W' (fun b=>w.heap.size+2≤b∧b<W.heap.size∧b≠c) (fun b hb'=>Z8z hb'.2.1 hb.size) g gok x (fun j hj=>(HIH.out.rd j hj).keep (fun b hb'=>hb.block b hb'.2.1) fun _ q=>q) u0 hu0;rw[hfwd]at this;unfold hpA at this;rw[hx4]at this;exact this
   have HF:=Z8r hF;have hnb:=HIH.out.nb;unfold hpC at hnb;rw[hx4]at hnb;have yc: ∀j,W.cell? ⟨c,j,none⟩=(#[.int .u64 g.base,.int .i64 g.cap,.int .i64 g.to,.bool g.cycle,.int .i64 g.scan,x 0,x 1,x 2,x 3,.slice (some ⟨gb,go,none⟩) h.roots.length cap]:Array Value)[j]? :=fun j=>Z8s _ _ _ _ _ _ hnb;have hcl:=Za hnb;have hltI:((k:Int) < (h.roots.length:Int))=True:=ZaJ (by omega);have HM:=Z8r (And.intro hstep (And.intro er (And.intro gok' (And.intro hgG (And.intro hnb hgl)))));clear hF hnb hgl hx4 hstep er gok' hroot hfwd gok hgG;go_upto_region 8 with fail;refine Si [39,40,41,42,43,44,45,38,46,47,48,7,6,8] (FrC W (frE c g (fun j=>if j=4 then .slice (some ⟨gb,go,none⟩) h.roots.length cap else x j) k (.pointer (some ⟨gb,go+k,none⟩)) u0) fv g') follows (by kernel_rfl) ⟨u,by simp only[putF,putL,Z8Q,Z9I,Zaw,ZaH,Z9P,Zat,Z9W],?_⟩ ?_ ?_
   ·exact⟨(Z8E _ _).drew,fun i _ _ _ h=>(by cases h),fun h=>(by cases h),fun h=>(by cases h),fun h=>(by cases h)⟩
   ·intro L i o v W1 ho hi hj C;have HX:=Z8r C;have hz:W.heap.size≤W1.heap.size:=C.b.size;have yd: ∀j,W1.cell? ⟨c,j,none⟩=(#[.int .u64 g.base,.int .i64 g.cap,.int .i64 g.to,.bool g.cycle,.int .i64 g.scan,x 0,x 1,x 2,x 3,.slice (some ⟨gb,go,none⟩) h.roots.length cap]:Array Value)[j]? :=fun j=>(C.b.cell (p:=⟨c,j,none⟩) hcl).trans (yc j);have hcell1:W1.cell? ⟨gb,go+k,none⟩=some (.int .u64 u0):=(C.b.cell (p:=⟨gb,go+k,none⟩) HM.out.2.2.2.1.2.1).trans hcell;clear C;have h15:i<15:=(Z8Z.1 ho).1;simp only[putF,putL,Z8Q,Z9I,Zaw,ZaH,Z9P,Zat,Z9W];have:i=0∨i=1∨i=2∨i=3∨i=4∨i=5∨i=6∨i=7∨i=8∨i=9∨i=10∨i=11∨i=12∨i=13∨i=14:=by omega
    rcases this with rfl|rfl|rfl|rfl|rfl|rfl|rfl|rfl|rfl|rfl|rfl|rfl|rfl|rfl|rfl
    ·cases ho;go_wp2
     try simp only[QN]
     refine⟨setV v 39 (.agg #[.int .u64 g.base,.int .i64 g.cap,.int .i64 g.to,.bool g.cycle,.int .i64 g.scan,x 0,x 1,x 2,x 3,.slice (some ⟨gb,go,none⟩) h.roots.length cap]),rfl,?_⟩;exact HX.out.pe 0 (by omega) rfl
    ·cases ho;go_wp2
     try simp only[QN]
     refine⟨setV v 40 (.pointer (some ⟨c,9,none⟩)),rfl,?_⟩;exact HX.out.pe 1 (by omega) rfl
    ·cases ho;have e1:v 40= .pointer (some ⟨c,9,none⟩):=HX.out.e 1 (by omega) (hj 1 (by decide));have E1:=Z8r e1;go_wp2
     try simp only[QN]
     refine⟨setV (setV v 40 (.pointer (some ⟨c,9,none⟩))) 41 (.slice (some ⟨gb,go,none⟩) h.roots.length cap),rfl,?_⟩;rw[Zl (v:=v) E1.out];exact HX.out.pe 2 (by omega) rfl
    ·cases ho;go_wp2
     try simp only[QN]
     refine⟨setV v 42 (.int .i64 k),rfl,?_⟩;exact HX.out.pe 3 (by omega) rfl
    ·cases ho;have e2:v 41= .slice (some ⟨gb,go,none⟩) h.roots.length cap:=HX.out.e 2 (by omega) (hj 2 (by decide));have E2:=Z8r e2;have e3:v 42= .int .i64 k:=HX.out.e 3 (by omega) (hj 3 (by decide));have E3:=Z8r e3;go_wp2
     try simp only[QN]
     refine⟨setV (setV (setV v 41 (.slice (some ⟨gb,go,none⟩) h.roots.length cap)) 42 (.int .i64 k)) 43 (.pointer (some ⟨gb,go+k,none⟩)),rfl,?_⟩;rw[Zl (v:=v) E2.out,Zl (v:=v) E3.out];exact HX.out.pe 4 (by omega) rfl
    ·cases ho;have e4:v 43= .pointer (some ⟨gb,go+k,none⟩):=HX.out.e 4 (by omega) (hj 4 (by decide));have E4:=Z8r e4;go_wp2
     try simp only[QN]
     refine⟨setV (setV v 43 (.pointer (some ⟨gb,go+k,none⟩))) 44 (.int .u64 u0),rfl,?_⟩;rw[Zl (v:=v) E4.out];exact HX.out.pe 5 (by omega) rfl
    ·cases ho;have e0:v 39= .agg #[.int .u64 g.base,.int .i64 g.cap,.int .i64 g.to,.bool g.cycle,.int .i64 g.scan,x 0,x 1,x 2,x 3,.slice (some ⟨gb,go,none⟩) h.roots.length cap]:=HX.out.e 0 (by omega) (hj 0 (by decide));have E0:=Z8r e0;have e5:v 44= .int .u64 u0:=HX.out.e 5 (by omega) (hj 5 (by decide));have E5:=Z8r e5
     go_wp2_with (go_at_call 39;refine(HF.out _ HX.out.b).mono ?_;rintro e w9 ⟨x9,rfl,hb9,ho9⟩;have HB9:=Z8r (And.intro hb9 ho9);clear hb9 ho9)
     try simp only[QN]
     refine⟨setV (setV (setV v 39 (.agg #[.int .u64 g.base,.int .i64 g.cap,.int .i64 g.to,.bool g.cycle,.int .i64 g.scan,x 0,x 1,x 2,x 3,.slice (some ⟨gb,go,none⟩) h.roots.length cap])) 44 (.int .u64 u0)) 45 (frT fv g' x9),rfl,?_⟩;rw[Zl (v:=v) E0.out,Zl (v:=v) E5.out];exact HX.out.call HB9.out.1 HB9.out.2
    ·cases ho;obtain⟨x9,e0,o9⟩:=HX.out.t 6 (.inl rfl) (hj 6 (by decide));have e0:v 45=frT fv g' x9:=e0;have E0:=Z8r e0;have O9:=Z8r o9;clear o9;go_wp2
     try simp only[QN]
     refine⟨setV (setV v 45 (frT fv g' x9)) 38 (frT fv g' x9),rfl,?_⟩;rw[Zl (v:=v) E0.out];exact HX.out.pt O9.out
    ·cases ho;obtain⟨x9,e0,o9⟩:=HX.out.t 7 (.inr rfl) (hj 7 (by decide));have e0:v 38= .tuple #[.int .u64 fv,.agg (hpC g' x9),.int .i64 0]:=e0;have E0:=Z8r e0;have O9:=Z8r o9;clear o9;go_wp2
     try simp only[QN]
     refine⟨setV (setV v 38 (.tuple #[.int .u64 fv,.agg (hpC g' x9),.int .i64 0])) 46 (.int .u64 fv),rfl,?_⟩;rw[Zl (v:=v) E0.out];exact HX.out.pf 8 (.inl rfl) rfl
    ·cases ho;obtain⟨x9,e0,o9⟩:=HX.out.t 7 (.inr rfl) (hj 7 (by decide));have e0:v 38= .tuple #[.int .u64 fv,.agg (hpC g' x9),.int .i64 0]:=e0;have E0:=Z8r e0;have O9:=Z8r o9;clear o9;go_wp2
     try simp only[QN]
     refine⟨setV (setV v 38 (.tuple #[.int .u64 fv,.agg (hpC g' x9),.int .i64 0])) 47 (.agg (hpC g' x9)),rfl,?_⟩;rw[Zl (v:=v) E0.out];exact HX.out.pa O9.out
    ·cases ho;obtain⟨x9,e0,o9⟩:=HX.out.t 7 (.inr rfl) (hj 7 (by decide));have e0:v 38= .tuple #[.int .u64 fv,.agg (hpC g' x9),.int .i64 0]:=e0;have E0:=Z8r e0;have O9:=Z8r o9;clear o9;go_wp2
     try simp only[QN]
     refine⟨setV (setV v 38 (.tuple #[.int .u64 fv,.agg (hpC g' x9),.int .i64 0])) 48 (.int .i64 0),rfl,?_⟩;rw[Zl (v:=v) E0.out];exact HX.out.pz 10 (.inl rfl) rfl
    ·cases ho;go_wp2
     try simp only[QN]
     exact⟨setV v 7 (.pointer (some ⟨W1.heap.size,0,none⟩)),rfl,HX.out.alloc hi⟩
    ·cases ho;have e0:v 46= .int .u64 fv:=HX.out.f 8 (.inl rfl) (hj 8 (by decide));have E0:=Z8r e0;go_wp2
     try simp only[QN]
     refine⟨setV (setV v 46 (.int .u64 fv)) 6 (.int .u64 fv),rfl,?_⟩;rw[Zl (v:=v) E0.out];exact HX.out.pf 12 (.inr rfl) rfl
    ·cases ho;obtain⟨c7,e7,hc1,hc2,hc3⟩:=HX.out.new (hj 11 (by decide));obtain⟨x9,e47,o9⟩:=HX.out.a (hj 9 (by decide));have hc3:=hc3 hi;have y4: ∀j,W1.cell? ⟨c7,j,none⟩=Zf[j]? :=fun j=>Z8s _ _ _ _ _ _ hc3;unfold Zf at y4;have y5: ∀j,W1.frozen? ⟨c7,j,none⟩=false:=fun j=>Zk hc3;have H3:=Z8r hc3;have E7:=Z8r e7;obtain⟨a0,q0,f0⟩:=Z3 (o9.own.own 0 (by omega));obtain⟨a1,q1,f1⟩:=Z3 (o9.own.own 1 (by omega));obtain⟨a2,q2,f2⟩:=Z3 (o9.own.own 2 (by omega));obtain⟨a3,q3,f3⟩:=Z3 (o9.own.own 3 (by omega));obtain⟨a4,q4,f4⟩:=Z3 (o9.own.own 4 (by omega))
     have hfl:hpC g' x9= #[.int .u64 g'.base,.int .i64 g'.cap,.int .i64 g'.to,.bool g'.cycle,.int .i64 g'.scan,.slice a0 (lsH g' 0).length q0,.slice a1 (lsH g' 1).length q1,.slice a2 (lsH g' 2).length q2,.slice a3 (lsH g' 3).length q3,.slice a4 (lsH g' 4).length q4]:=by
      unfold hpC;rw[f0,f1,f2,f3,f4]
     rw[hfl]at e47;have HFL:=Z8r (And.intro hfl (And.intro e47 o9));clear hc3 o9 f0 f1 f2 f3 f4 hfl;go_wp2
     try simp only[QN]
     refine⟨setV (setV v 7 (.pointer (some ⟨c7,0,none⟩))) 47 (.agg #[.int .u64 g'.base,.int .i64 g'.cap,.int .i64 g'.to,.bool g'.cycle,.int .i64 g'.scan,.slice a0 (lsH g' 0).length q0,.slice a1 (lsH g' 1).length q1,.slice a2 (lsH g' 2).length q2,.slice a3 (lsH g' 3).length q3,.slice a4 (lsH g' 4).length q4]),rfl,?_⟩;rw[Zl (v:=v) E7.out,Zl (v:=v) HFL.out.2.1];refine HX.out.store E7.out HFL.out.2.2 (hj 11 (by decide)) hi H3.out (fun b hb=> ?_) ?_ ?_ ?_
     ·exact Zt hb _ _ _ _ _ _ _ _ _ _
     ·simp[World.setCell]
     ·rw[HFL.out.1];exact Wq H3.out _ _ _ _ _ _ _ _ _ _
     ·exact Zh (Z8E _ _) hc1 _ _ _ _ _ _ _ _ _ _
    ·cases ho;have e0:v 48= .int .i64 0:=HX.out.z 10 (.inl rfl) (hj 10 (by decide));have E0:=Z8r e0;go_wp2
     try simp only[QN]
     refine⟨setV (setV v 48 (.int .i64 0)) 8 (.int .i64 0),rfl,?_⟩;rw[Zl (v:=v) E0.out];exact HX.out.pz 14 (.inr rfl) rfl
   ·intro L v W1 hL C;have e6:v 6= .int .u64 fv:=C.f 12 (.inr rfl) (hL 12 (by decide));have e8:v 8= .int .i64 0:=C.z 14 (.inr rfl) (hL 14 (by decide));obtain⟨c7,x9,e7,hb7,o9⟩:=C.put (hL 13 (by decide));have hbel:=C.b;have hsz:=hbel.size;have hgl':g'.roots.length=h.roots.length:=by rw[HM.out.2.1,HM.out.2.2.2.2.2]
    obtain⟨a0,q0,f0⟩:=Z3 (o9.own.own 0 (by omega));obtain⟨a1,q1,f1⟩:=Z3 (o9.own.own 1 (by omega));obtain⟨a2,q2,f2⟩:=Z3 (o9.own.own 2 (by omega));obtain⟨a3,q3,f3⟩:=Z3 (o9.own.own 3 (by omega));obtain⟨a4,q4,f4⟩:=Z3 (o9.own.own 4 (by omega));obtain⟨g4,rfl⟩:=XU (o9.own.own 4 (by omega)) f4 (by show 0<g'.roots.length;omega);rw[show(lsH g' 4).length=g'.roots.length from rfl,hgl']at f4
    have hfl:hpC g' x9= #[.int .u64 g'.base,.int .i64 g'.cap,.int .i64 g'.to,.bool g'.cycle,.int .i64 g'.scan,.slice a0 (lsH g' 0).length q0,.slice a1 (lsH g' 1).length q1,.slice a2 (lsH g' 2).length q2,.slice a3 (lsH g' 3).length q3,.slice (some ⟨g4,0,none⟩) h.roots.length q4]:=by
     unfold hpC;rw[f0,f1,f2,f3,f4]
    rw[hfl]at hb7;have hbc:=(hbel.block c hcl).trans HM.out.2.2.2.2.1;have y7: ∀j,W1.cell? ⟨c7,j,none⟩=(#[.int .u64 g'.base,.int .i64 g'.cap,.int .i64 g'.to,.bool g'.cycle,.int .i64 g'.scan,.slice a0 (lsH g' 0).length q0,.slice a1 (lsH g' 1).length q1,.slice a2 (lsH g' 2).length q2,.slice a3 (lsH g' 3).length q3,.slice (some ⟨g4,0,none⟩) h.roots.length q4]:Array Value)[j]? :=fun j=>Z8s _ _ _ _ _ _ hb7;have yd: ∀j,W1.cell? ⟨c,j,none⟩=(#[.int .u64 g.base,.int .i64 g.cap,.int .i64 g.to,.bool g.cycle,.int .i64 g.scan,x 0,x 1,x 2,x 3,.slice (some ⟨gb,go,none⟩) h.roots.length cap]:Array Value)[j]? :=fun j=>Z8s _ _ _ _ _ _ hbc;have fd: ∀j,W1.frozen? ⟨c,j,none⟩=false:=fun j=>Zk hbc;have HO:=Z8r (And.intro o9.own (And.intro hbel (And.intro hfl (And.intro f4 (And.intro hgl' hbc)))));have hg4:W.heap.size≤g4∧g4<W1.heap.size:=(o9.own.own 4 (by omega)).lt g4 (by rw[f4];rfl);clear C o9 hbel hfl f0 f1 f2 f3 f4 hgl' hb7 hbc hL;simp only[putF,putL,Z8Q,Z9I,Zaw,ZaH,Z9P,Zat,Z9W];go_upto_region 12 with fail;obtain⟨W2,hW2⟩: ∃W2,W2=((((((((((W1.setCell ⟨c,0,none⟩ (.int .u64 g'.base)).setCell ⟨c,1,none⟩ (.int .i64 g'.cap)).setCell ⟨c,2,none⟩ (.int .i64 g'.to)).setCell ⟨c,3,none⟩ (.bool g'.cycle)).setCell ⟨c,4,none⟩ (.int .i64 g'.scan)).setCell ⟨c,5,none⟩ (.slice a0 (lsH g' 0).length q0)).setCell ⟨c,6,none⟩ (.slice a1 (lsH g' 1).length q1)).setCell ⟨c,7,none⟩ (.slice a2 (lsH g' 2).length q2)).setCell ⟨c,8,none⟩ (.slice a3 (lsH g' 3).length q3)).setCell ⟨c,9,none⟩ (.slice (some ⟨g4,0,none⟩) h.roots.length q4)):=⟨_,rfl⟩;rw[←hW2];have hb2:W2.heap[c]? =some (.cells #[.int .u64 g'.base,.int .i64 g'.cap,.int .i64 g'.to,.bool g'.cycle,.int .i64 g'.scan,.slice a0 (lsH g' 0).length q0,.slice a1 (lsH g' 1).length q1,.slice a2 (lsH g' 2).length q2,.slice a3 (lsH g' 3).length q3,.slice (some ⟨g4,0,none⟩) h.roots.length q4] 25 (0,0)):=by rw[hW2];exact zT HO.out.2.2.2.2.2 _ _ _ _ _ _ _ _ _ _
    have hot: ∀b,b≠c→W2.heap[b]? =W1.heap[b]? :=fun b hb=>by rw[hW2];exact Zt hb _ _ _ _ _ _ _ _ _ _
    have hz2:W2.heap.size=W1.heap.size:=by rw[hW2];simp[World.setCell]
    have hbl2:Below w.heap.size W1 W2:=by rw[hW2];exact Zh (Z8E _ _) (by have:=HIH.out.le;omega) _ _ _ _ _ _ _ _ _ _
    clear hW2;have hown2:HOwn W.heap.size W2 g' x9:=⟨fun j hj=>Ze (HO.out.1.own j hj) fun b hb=>hot b (by have:=((HO.out.1.own j hj).lt b hb).1;omega),HO.out.1.apart⟩;have ho4:=hown2.own 4 (by omega);rw[HO.out.2.2.2.1,show(lsH g' 4).length=h.roots.length from HO.out.2.2.2.2.1]at ho4;have y2: ∀j,W2.cell? ⟨c,j,none⟩=(#[.int .u64 g'.base,.int .i64 g'.cap,.int .i64 g'.to,.bool g'.cycle,.int .i64 g'.scan,.slice a0 (lsH g' 0).length q0,.slice a1 (lsH g' 1).length q1,.slice a2 (lsH g' 2).length q2,.slice a3 (lsH g' 3).length q3,.slice (some ⟨g4,0,none⟩) h.roots.length q4]:Array Value)[j]? :=fun j=>Z8s _ _ _ _ _ _ hb2;obtain⟨z0,hz0⟩: ∃z0,g'.roots[k]? =some z0:=⟨_,Z8n (by rw[HO.out.2.2.2.2.1];exact hlt)⟩
    have ec:W2.cell? ⟨g4,k,none⟩=some (.int .u64 z0):=by
     rw[ho4.cellAt k (by omega)];simp[nums,lsH,hz0]
    have ef:W2.frozen? ⟨g4,k,none⟩=false:=ho4.frozenAt k;have wk:=Z1 ((k:Int)+1) (by have:=HH.out.roots;omega) (by have:=HH.out.roots;omega);have HQ:=Z8r (And.intro hb2 (And.intro hot (And.intro hz2 (And.intro hbl2 (And.intro hown2 ho4)))));clear hb2 hot hz2 hbl2 hown2 ho4 y7 yd fd hz0;go_wp2
    go_step3
    simp only[Exit.then,Exit.inBlock];refine⟨rfl,⟨c,k+1,x9,rfl,rfl,rfl,rfl,?_,by omega,?_⟩,?_⟩
    ·show Value.int .i64 ((k:Int)+1)=_;congr 1
    ·rw[HM.out.1];obtain⟨hb2,hot,hz2,hbl2,hown2,ho4⟩:=HQ.out;obtain⟨hs1,hs2⟩:=ho4.stored k (.int .u64 fv);have hg4c:g4≠c:=by omega
     have oth: ∀b,b≠g4→(W2.setCell ⟨g4,k,none⟩ (.int .u64 fv)).heap[b]? =W2.heap[b]? :=fun b hb=>Z8I _ _ _ _ hb;have hz3:(W2.setCell ⟨g4,k,none⟩ (.int .u64 fv)).heap.size=W2.heap.size:=by simp[World.setCell]
     have hle:=HIH.out.le;have hrb:=HIH.out.rb;refine⟨(HIH.out.below.trans ((HO.out.2.1.mono HIH.out.below.size).trans hbl2)).setCell (by show w.heap.size≤g4;have:=HIH.out.below.size;omega) _,?_,hle,?_,fun j hj=> ?_⟩
     ·have:=Za hrb;rw[oth _ (by omega),hot _ (by omega),HO.out.2.1.block _ this];exact hrb
     ·rw[oth c (by omega),hb2,←HO.out.2.2.1];rfl
     ·have hin: ∀b,W.heap.size≤b→b< (W2.setCell ⟨g4,k,none⟩ (.int .u64 fv)).heap.size→w.heap.size+2≤b∧b< (W2.setCell ⟨g4,k,none⟩ (.int .u64 fv)).heap.size∧b≠c:=fun b h1 h2=>⟨by omega,h2,by omega⟩;by_cases e:j=4
      ·subst e;have hn:nums .u64 (g'.roots.set k fv)=(nums .u64 (lsH g' 4)).set k (.int .u64 fv):=Vp _ _ _ _;rw[←hn]at hs1;show Rd _ _ (.sl ((g'.roots.set k fv).map vu)) (x9 4);rw[HO.out.2.2.2.1];have hl4:h.roots.length=(g'.roots.set k fv).length:=by rw[Z9y,HO.out.2.2.2.2.1]
       have hs3:(W2.setCell ⟨g4,k,none⟩ (.int .u64 fv)).ownsRow W.heap.size 22 1 (.slice (some ⟨g4,0,none⟩) h.roots.length q4) (g'.roots.set k fv).length (nums .u64 (g'.roots.set k fv)):=by rw[←hl4];exact hs1
       exact Vc hs3 hin
      ·have hj4:lsH {g' with roots:=g'.roots.set k fv} j=lsH g' j:=by
        have:j=0∨j=1∨j=2∨j=3:=by omega
        rcases this with rfl|rfl|rfl|rfl<;>rfl
       rw[hj4];refine Vc (Ze (hown2.own j hj) fun b hb=>oth b fun e2=> ?_) hin;exact hown2.apart j 4 (by omega) (by omega) b hb (by rw[e2,HO.out.2.2.2.1];rfl)
    ·simp[intOf];omega
  ·have hkn:k=h.roots.length:=by omega
   subst hkn;obtain⟨q,I⟩:=UK HRT.out HC.out h.roots.length (Z8v _);have hgl:(VQ (Wi h) h.roots.length).roots.length=h.roots.length:=I.len;clear I;have hfl:Y3 h=Qm (VQ (Wi h) h.roots.length):=rfl;rw[hfl];clear hfl;generalize VQ (Wi h) h.roots.length=g at*;obtain⟨a0,q0,f0⟩:=Rd.slfT (HIH.out.rd 0 (by omega));obtain⟨a1,q1,f1⟩:=Rd.slfT (HIH.out.rd 1 (by omega));obtain⟨a2,q2,f2⟩:=Rd.slfT (HIH.out.rd 2 (by omega));obtain⟨a3,q3,f3⟩:=Rd.slfT (HIH.out.rd 3 (by omega));obtain⟨a4,q4,f4⟩:=Rd.slfT (HIH.out.rd 4 (by omega));rw[Z8P,show(lsH g 0).length=g.low.length from rfl]at f0;rw[Z8P,show(lsH g 1).length=g.high.length from rfl]at f1;rw[Z8P,show(lsH g 2).length=g.old.length from rfl]at f2;rw[Z8P,show(lsH g 3).length=g.far.length from rfl]at f3;rw[Z8P,show(lsH g 4).length=g.roots.length from rfl,hgl]at f4;have hnb:=HIH.out.nb
   have hpc:hpC g x= #[.int .u64 g.base,.int .i64 g.cap,.int .i64 g.to,.bool g.cycle,.int .i64 g.scan,.slice a0 g.low.length q0,.slice a1 g.high.length q1,.slice a2 g.old.length q2,.slice a3 g.far.length q3,.slice a4 h.roots.length q4]:=by
    unfold hpC;rw[f0,f1,f2,f3,f4]
   rw[hpc]at hnb;have hrb:=HIH.out.rb;have hle:=HIH.out.le;have hcl:=Za hnb;have yc: ∀j,W.cell? ⟨c,j,none⟩=(#[.int .u64 g.base,.int .i64 g.cap,.int .i64 g.to,.bool g.cycle,.int .i64 g.scan,.slice a0 g.low.length q0,.slice a1 g.high.length q1,.slice a2 g.old.length q2,.slice a3 g.far.length q3,.slice a4 h.roots.length q4]:Array Value)[j]? :=fun j=>Z8s _ _ _ _ _ _ hnb;have fc: ∀j,W.frozen? ⟨c,j,none⟩=false:=fun j=>Zk hnb;have yz: ∀j,W.cell? ⟨w.heap.size+1,j,none⟩=Zf[j]? :=fun j=>Z8s _ _ _ _ _ _ hrb;unfold Zf at yz;have fz: ∀j,W.frozen? ⟨w.heap.size+1,j,none⟩=false:=fun j=>Zk hrb;have hne: ¬w.heap.size+1=c:=by omega
   have hne2: ¬c=w.heap.size+1:=by omega
   have HP:=Z8r (And.intro hpc (And.intro hnb (And.intro hrb (And.intro f0 (And.intro f1 (And.intro f2 (And.intro f3 f4)))))));clear hpc hnb hrb f0 f1 f2 f3 f4 hgl;by_cases hlow:0<g.low.length
   ·have hlowI:((0:Int) < (g.low.length:Int))=True:=ZaJ (by omega);go_wp2;simp only[Exit.jump];obtain⟨W3,hW3⟩: ∃W3,W3=W.setCell ⟨c,3,none⟩ (.bool true):=⟨_,rfl⟩;rw[←hW3]
    have oth: ∀b,b≠c→W3.heap[b]? =W.heap[b]? :=fun b hb=>by
     rw[hW3];simp[World.setCell,Z8R,Zab hb]
    have hz3:W3.heap.size=W.heap.size:=by rw[hW3];simp[World.setCell]
    have bel3:Below w.heap.size W W3:=by
     rw[hW3];exact(Z8E _ _).setCell (by show w.heap.size≤c;omega) _
    have y:=Zj ((oth _ hne).trans HP.out.2.2.1) (.int .u64 g.base) (.int .i64 g.cap) (.int .i64 g.to) (.bool true) (.int .i64 g.scan) (.slice a0 g.low.length q0) (.slice a1 g.high.length q1) (.slice a2 g.old.length q2) (.slice a3 g.far.length q3) (.slice a4 h.roots.length q4);have hfe:Qm g= {g with cycle:=true}:=if_pos hlow;rw[hfe];clear hW3;refine Z8K (v:= .tuple #[.agg #[.int .u64 g.base,.int .i64 g.cap,.int .i64 g.to,.bool true,.int .i64 g.scan,.slice a0 g.low.length q0,.slice a1 g.high.length q1,.slice a2 g.old.length q2,.slice a3 g.far.length q3,.slice a4 h.roots.length q4],.int .i64 0]) ?_ rfl ?_
    ·simp[results,Try.results17,go_sem,y]
    ·refine⟨x,?_,Zh (HIH.out.below.trans bel3) (by omega) _ _ _ _ _ _ _ _ _ _,fun j hj=> ?_⟩
     ·have e0:=HP.out.2.2.2.1;have e1:=HP.out.2.2.2.2.1;have e2:=HP.out.2.2.2.2.2.1;have e3:=HP.out.2.2.2.2.2.2.1;have e4:=HP.out.2.2.2.2.2.2.2;rw[←e0,←e1,←e4,←e2,←e3];rfl
     ·have hl:lsH {g with cycle:=true} j=lsH g j:=rfl;rw[hl];exact(HIH.out.rd j hj).keep (fun b hb=>(Zt (by have:=hb.1;omega) _ _ _ _ _ _ _ _ _ _).trans (oth b hb.2.2)) fun b hb=>⟨by have:=hb.1;omega,by simp[World.setCell,hz3];exact hb.2.1⟩
   ·have hlowI:((0:Int) < (g.low.length:Int))=False:=Zan (by omega);go_wp2;simp only[Exit.jump];obtain⟨W3,hW3⟩: ∃W3,W3=((W.setCell ⟨c,3,none⟩ (.bool false)).setCell ⟨c,7,none⟩ (.slice none 0 0)).setCell ⟨c,8,none⟩ (.slice none 0 0):=⟨_,rfl⟩;rw[←hW3]
    have oth: ∀b,b≠c→W3.heap[b]? =W.heap[b]? :=fun b hb=>by
     rw[hW3];simp[World.setCell,Z8R,Zab hb]
    have hz3:W3.heap.size=W.heap.size:=by rw[hW3];simp[World.setCell]
    have bel3:Below w.heap.size W W3:=by
     rw[hW3];exact(((Z8E _ _).setCell (by show w.heap.size≤c;omega) _).setCell (by show w.heap.size≤c;omega) _).setCell (by show w.heap.size≤c;omega) _
    have y:=Zj ((oth _ hne).trans HP.out.2.2.1) (.int .u64 g.base) (.int .i64 g.cap) (.int .i64 g.to) (.bool false) (.int .i64 g.scan) (.slice a0 g.low.length q0) (.slice a1 g.high.length q1) (.slice none 0 0) (.slice none 0 0) (.slice a4 h.roots.length q4);have hfe:Qm g= {g with cycle:=false,old:= [],far:= []}:=if_neg hlow;rw[hfe];clear hW3;refine Z8K (v:= .tuple #[.agg #[.int .u64 g.base,.int .i64 g.cap,.int .i64 g.to,.bool false,.int .i64 g.scan,.slice a0 g.low.length q0,.slice a1 g.high.length q1,.slice none 0 0,.slice none 0 0,.slice a4 h.roots.length q4],.int .i64 0]) ?_ rfl ?_
    ·simp[results,Try.results17,go_sem,y]
    ·refine⟨(fun j=>if j=2∨j=3 then .slice none 0 0 else x j),?_,Zh (HIH.out.below.trans bel3) (by omega) _ _ _ _ _ _ _ _ _ _,fun j hj=> ?_⟩
     ·have e0:=HP.out.2.2.2.1;have e1:=HP.out.2.2.2.2.1;have e2:=HP.out.2.2.2.2.2.1;have e3:=HP.out.2.2.2.2.2.2.1;have e4:=HP.out.2.2.2.2.2.2.2;rw[←e0,←e1,←e4];rfl
     ·have:j=2∨j=3∨(j≠2∧j≠3):=by omega
      rcases this with rfl|rfl| ⟨h2,h3⟩
      ·exact .nil _ _ (by unfold maxLen;omega)
      ·exact .nil _ _ (by unfold maxLen;omega)
      ·have hl:lsH {g with cycle:=false,old:= [],far:= []} j=lsH g j:=by
        have:j=0∨j=1∨j=4:=by omega
        rcases this with rfl|rfl|rfl<;>rfl
       rw[hl];simp only[h2,h3,or_self,Z9f];exact(HIH.out.rd j hj).keep (fun b hb=>(Zt (by have:=hb.1;omega) _ _ _ _ _ _ _ _ _ _).trans (oth b hb.2.2)) fun b hb=>⟨by have:=hb.1;omega,by simp[World.setCell,hz3];exact hb.2.1⟩
 intro hrest
 go_upto_region 5 with (first
  | (go_at_call 33;refine(HR.out _ ?_).mono ?_;rotate_left;rintro e wa ⟨rfl,hba⟩
     have bA:wa.heap[w.heap.size]? =some (.cells #[.int .u64 h.base,.int .i64 h.cap,.int .i64 h.to,.bool false,.int .i64 h.scan,src 0,src 1,src 2,src 3,src 4] 25 (0,0)):=(hba.block _ (by simp;omega)).trans ((Z8t _ _ _ (by simp)).trans (Z8C w _));have bZ:wa.heap[w.heap.size+1]? =some (.cells Zf 25 (0,0)):=(hba.block _ (by simp)).trans (X4 w _);have ya: ∀j,wa.cell? ⟨w.heap.size,j,none⟩=(#[.int .u64 h.base,.int .i64 h.cap,.int .i64 h.to,.bool false,.int .i64 h.scan,src 0,src 1,src 2,src 3,src 4]:Array Value)[j]? :=fun j=>Z8s _ _ _ _ _ _ bA;have HBA:=Z8r hba;have HBZ:=Z8r (And.intro bA bZ);clear hba bA bZ))
 case refine_1=>exact((Z8E _ w).alloc (Z8v _) _).alloc (by simp) _
 have hba:Below w.heap.size w wa:=Below.trans (((Z8E _ w).alloc (Z8v _) _).alloc (by simp) _) (HBA.out.mono (by simp;omega));have hsa:w.heap.size+2≤wa.heap.size:=by have:=HBA.out.size;simp at this;omega
 have HWA:=Z8r hba;clear hba HBA;have HSW:=Z8r (fun(W:World) (hW:Below wa.heap.size wa W) (j:Nat) (hj:j<5)=>(HS.out j hj).keep (fun b hb'=>(hW.block b (by have:=hG b hb';omega)).trans (HWA.out.block b (hG b hb'))) fun _ q=>q);refine Si [16,17,18,19,20,21,22,23,24,25,26,27,28,29,30,31,32,4] (FlC wa w.heap.size h src) follows (by kernel_rfl) ⟨fun _=>undef,by simp only[putF,putL,Z8Q,Z9I,Zaw,ZaH,Z9P,Zat,Z9W],?_⟩ ?_ ?_
 ·exact⟨(Z8E _ _).drew,fun i _ h=>(by cases h),fun i _ h=>(by cases h),fun h=>(by cases h),fun h=>(by cases h),fun h=>(by cases h),fun h=>(by cases h)⟩
 ·intro L i o v W ho hi hj C;have HC:=Z8r C;have hz:wa.heap.size≤W.heap.size:=C.b.size;have ya: ∀j,W.cell? ⟨w.heap.size,j,none⟩=(#[.int .u64 h.base,.int .i64 h.cap,.int .i64 h.to,.bool false,.int .i64 h.scan,src 0,src 1,src 2,src 3,src 4]:Array Value)[j]? :=fun j=>(C.b.cell (p:=⟨w.heap.size,j,none⟩) (by show w.heap.size<wa.heap.size;omega)).trans (ya j);clear C;have h19:i<19:=(Z8Z.1 ho).1;simp only[putF,putL,Z8Q,Z9I,Zaw,ZaH,Z9P,Zat,Z9W];have:i=0∨i=1∨i=2∨i=3∨i=4∨i=5∨i=6∨i=7∨i=8∨i=9∨i=10∨i=11∨i=12∨i=13∨i=14∨i=15∨i=16∨i=17∨i=18:=by omega
  rcases this with rfl|rfl|rfl|rfl|rfl|rfl|rfl|rfl|rfl|rfl|rfl|rfl|rfl|rfl|rfl|rfl|rfl|rfl|rfl
  ·cases ho;go_wp2
   try simp only[QN]
   exact⟨setV v 16 (flEx w.heap.size h src 0),rfl,HC.out.pure (by unfold flS;omega) rfl rfl⟩
  ·cases ho;have e0:=HC.out.eq 0 (by unfold flS;omega) (hj 0 (by decide));have E0:=Z8r e0;simp only[flEx]at e0;go_wp2
   try simp only[QN]
   exact⟨setV (setV v 16 (flEx w.heap.size h src 0)) 17 (flEx w.heap.size h src 1),rfl,(by rw[Zl E0.out];exact HC.out.pure (by unfold flS;omega) rfl rfl)⟩
  ·cases ho;go_wp2
   try simp only[QN]
   exact⟨setV v 18 (flEx w.heap.size h src 2),rfl,HC.out.pure (by unfold flS;omega) rfl rfl⟩
  ·cases ho;have e0:=HC.out.eq 2 (by unfold flS;omega) (hj 2 (by decide));have E0:=Z8r e0;simp only[flEx]at e0;go_wp2
   try simp only[QN]
   exact⟨setV (setV v 18 (flEx w.heap.size h src 2)) 19 (flEx w.heap.size h src 3),rfl,(by rw[Zl E0.out];exact HC.out.pure (by unfold flS;omega) rfl rfl)⟩
  ·cases ho;go_wp2
   try simp only[QN]
   exact⟨setV v 20 (flEx w.heap.size h src 4),rfl,HC.out.pure (by unfold flS;omega) rfl rfl⟩
  ·cases ho;have e0:=HC.out.eq 4 (by unfold flS;omega) (hj 4 (by decide));have E0:=Z8r e0;simp only[flEx]at e0;go_wp2
   try simp only[QN]
   exact⟨setV (setV v 20 (flEx w.heap.size h src 4)) 21 (flEx w.heap.size h src 5),rfl,(by rw[Zl E0.out];exact HC.out.pure (by unfold flS;omega) rfl rfl)⟩
  ·cases ho;have e0:=HC.out.eq 5 (by unfold flS;omega) (hj 5 (by decide));have E0:=Z8r e0;simp only[flEx]at e0;go_wp2
   try simp only[QN]
   exact⟨setV (setV v 21 (flEx w.heap.size h src 5)) 22 (flEx w.heap.size h src 6),rfl,(by rw[Zl E0.out];exact HC.out.pure (by unfold flS;omega) rfl rfl)⟩
  ·cases ho;go_wp2
   try simp only[QN]
   exact⟨setV v 23 (flEx w.heap.size h src 7),rfl,HC.out.pure (by unfold flS;omega) rfl rfl⟩
  ·cases ho;have e0:=HC.out.eq 7 (by unfold flS;omega) (hj 7 (by decide));have E0:=Z8r e0;simp only[flEx]at e0;go_wp2
   try simp only[QN]
   exact⟨setV (setV v 23 (flEx w.heap.size h src 7)) 24 (flEx w.heap.size h src 8),rfl,(by rw[Zl E0.out];exact HC.out.pure (by unfold flS;omega) rfl rfl)⟩
  ·cases ho;have e0:=HC.out.eq 8 (by unfold flS;omega) (hj 8 (by decide));have E0:=Z8r e0;simp only[flEx]at e0
   go_wp2_with (go_at_call 38;refine(U2 _ (l:=h.low) (G:=G) HH.out.low (HSW.out _ HC.out.b 0 (by omega))).mono ?_;rintro e w9 ⟨y,rfl,hb9,hr9⟩;have HB9:=Z8r (And.intro hb9 hr9);clear hb9 hr9)
   try simp only[QN]
   exact⟨setV (setV v 24 (flEx w.heap.size h src 8)) 25 y,rfl,(by rw[Zl E0.out];exact HC.out.call (by unfold flR;omega) rfl HB9.out.1 HB9.out.2)⟩
  ·cases ho;go_wp2
   try simp only[QN]
   exact⟨setV v 26 (flEx w.heap.size h src 10),rfl,HC.out.pure (by unfold flS;omega) rfl rfl⟩
  ·cases ho;have e0:=HC.out.eq 10 (by unfold flS;omega) (hj 10 (by decide));have E0:=Z8r e0;simp only[flEx]at e0;go_wp2
   try simp only[QN]
   exact⟨setV (setV v 26 (flEx w.heap.size h src 10)) 27 (flEx w.heap.size h src 11),rfl,(by rw[Zl E0.out];exact HC.out.pure (by unfold flS;omega) rfl rfl)⟩
  ·cases ho;have e0:=HC.out.eq 11 (by unfold flS;omega) (hj 11 (by decide));have E0:=Z8r e0;simp only[flEx]at e0
   go_wp2_with (go_at_call 38;refine(U2 _ (l:=h.high) (G:=G) HH.out.high (HSW.out _ HC.out.b 1 (by omega))).mono ?_;rintro e w9 ⟨y,rfl,hb9,hr9⟩;have HB9:=Z8r (And.intro hb9 hr9);clear hb9 hr9)
   try simp only[QN]
   exact⟨setV (setV v 27 (flEx w.heap.size h src 11)) 28 y,rfl,(by rw[Zl E0.out];exact HC.out.call (by unfold flR;omega) rfl HB9.out.1 HB9.out.2)⟩
  ·cases ho;go_wp2
   try simp only[QN]
   exact⟨setV v 29 (flEx w.heap.size h src 13),rfl,HC.out.pure (by unfold flS;omega) rfl rfl⟩
  ·cases ho;have e0:=HC.out.eq 13 (by unfold flS;omega) (hj 13 (by decide));have E0:=Z8r e0;simp only[flEx]at e0;go_wp2
   try simp only[QN]
   exact⟨setV (setV v 29 (flEx w.heap.size h src 13)) 30 (flEx w.heap.size h src 14),rfl,(by rw[Zl E0.out];exact HC.out.pure (by unfold flS;omega) rfl rfl)⟩
  ·cases ho;have e0:=HC.out.eq 14 (by unfold flS;omega) (hj 14 (by decide));have E0:=Z8r e0;simp only[flEx]at e0
   go_wp2_with (go_at_call 38;refine(U2 _ (l:=h.roots) (G:=G) HH.out.roots (HSW.out _ HC.out.b 4 (by omega))).mono ?_;rintro e w9 ⟨y,rfl,hb9,hr9⟩;have HB9:=Z8r (And.intro hb9 hr9);clear hb9 hr9)
   try simp only[QN]
   exact⟨setV (setV v 30 (flEx w.heap.size h src 14)) 31 y,rfl,(by rw[Zl E0.out];exact HC.out.call (by unfold flR;omega) rfl HB9.out.1 HB9.out.2)⟩
  ·cases ho;have e0:=HC.out.eq 1 (by unfold flS;omega) (hj 1 (by decide));have E0:=Z8r e0;simp only[flEx]at e0;have e1:=HC.out.eq 3 (by unfold flS;omega) (hj 3 (by decide));have E1:=Z8r e1;simp only[flEx]at e1;have e2:=HC.out.eq 6 (by unfold flS;omega) (hj 6 (by decide));have E2:=Z8r e2;simp only[flEx]at e2;obtain⟨a9,c9,f9⟩:=Rd.slfT (HC.out.rd 9 (by unfold flR;omega) (hj 9 (by decide)));rw[show(List.map vu (flX h 9)).length=h.low.length from Z8P _]at f9;simp only[Nat.reduceAdd]at f9;have F9:=Z8r f9;obtain⟨a12,c12,f12⟩:=Rd.slfT (HC.out.rd 12 (by unfold flR;omega) (hj 12 (by decide)));rw[show(List.map vu (flX h 12)).length=h.high.length from Z8P _]at f12;simp only[Nat.reduceAdd]at f12;have F12:=Z8r f12;obtain⟨a15,c15,f15⟩:=Rd.slfT (HC.out.rd 15 (by unfold flR;omega) (hj 15 (by decide)));rw[show(List.map vu (flX h 15)).length=h.roots.length from Z8P _]at f15;simp only[Nat.reduceAdd]at f15;have F15:=Z8r f15;go_wp2
   try simp only[QN]
   refine⟨setV (setV (setV (setV (setV (setV (setV v 17 (flEx w.heap.size h src 1)) 19 (flEx w.heap.size h src 3)) 22 (flEx w.heap.size h src 6)) 25 (.slice a9 h.low.length c9)) 28 (.slice a12 h.high.length c12)) 31 (.slice a15 h.roots.length c15)) 32 (.agg #[.int .u64 h.base,.int .i64 h.cap,.int .i64 (1-h.to),.bool false,.int .i64 0,.slice none 0 0,.slice none 0 0,.slice a9 h.low.length c9,.slice a12 h.high.length c12,.slice a15 h.roots.length c15]),rfl,?_⟩;rw[Zl (v:=v) E0.out,Zl (v:=v) E1.out,Zl (v:=v) E2.out,Zl (v:=v) F9.out,Zl (v:=v) F12.out,Zl (v:=v) F15.out]
   have hx:((.agg #[.int .u64 h.base,.int .i64 h.cap,.int .i64 (1-h.to),.bool false,.int .i64 0,.slice none 0 0,.slice none 0 0,.slice a9 h.low.length c9,.slice a12 h.high.length c12,.slice a15 h.roots.length c15]):Value)= .agg (flA h fun i=>v (16+i)):=by
    unfold flA;simp only[Nat.reduceAdd];rw[F9.out,F12.out,F15.out]
   rw[hx];exact HC.out.built (hj 9 (by decide)) (hj 12 (by decide)) (hj 15 (by decide))
  ·cases ho;go_wp2
   try simp only[QN]
   exact⟨setV v 4 (.pointer (some ⟨W.heap.size,0,none⟩)),rfl,HC.out.alloc hi⟩
  ·cases ho;obtain⟨c,e4,hc1,hc2,hc3⟩:=HC.out.new (hj 17 (by decide));obtain⟨y,e32,hy⟩:=HC.out.agg (hj 16 (by decide));have hc3:=hc3 hi;have y4: ∀j,W.cell? ⟨c,j,none⟩=Zf[j]? :=fun j=>Z8s _ _ _ _ _ _ hc3;unfold Zf at y4;have y5: ∀j,W.frozen? ⟨c,j,none⟩=false:=fun j=>Zk hc3;have H3:=Z8r hc3;have E4:=Z8r e4;have E32:=Z8r e32;obtain⟨a9,c9,f9⟩:=Rd.slfT (hy 9 (by unfold flR;omega));obtain⟨a12,c12,f12⟩:=Rd.slfT (hy 12 (by unfold flR;omega));obtain⟨a15,c15,f15⟩:=Rd.slfT (hy 15 (by unfold flR;omega));rw[show(List.map vu (flX h 9)).length=h.low.length from Z8P _]at f9;rw[show(List.map vu (flX h 12)).length=h.high.length from Z8P _]at f12;rw[show(List.map vu (flX h 15)).length=h.roots.length from Z8P _]at f15
   have hfl:flA h y= #[.int .u64 h.base,.int .i64 h.cap,.int .i64 (1-h.to),.bool false,.int .i64 0,.slice none 0 0,.slice none 0 0,.slice a9 h.low.length c9,.slice a12 h.high.length c12,.slice a15 h.roots.length c15]:=by
    unfold flA;rw[f9,f12,f15]
   rw[hfl]at e32;have HFL:=Z8r (And.intro hfl e32);clear hc3 hy f9 f12 f15 hfl;go_wp2
   try simp only[QN]
   refine⟨setV (setV v 4 (.pointer (some ⟨c,0,none⟩))) 32 (.agg #[.int .u64 h.base,.int .i64 h.cap,.int .i64 (1-h.to),.bool false,.int .i64 0,.slice none 0 0,.slice none 0 0,.slice a9 h.low.length c9,.slice a12 h.high.length c12,.slice a15 h.roots.length c15]),rfl,?_⟩;rw[Zl (v:=v) E4.out,Zl HFL.out.2];refine HC.out.store E4.out E32.out (hj 17 (by decide)) (hj 16 (by decide)) hi H3.out (fun b hb=> ?_) ?_ ?_ ?_
   ·exact Zt hb _ _ _ _ _ _ _ _ _ _
   ·simp[World.setCell]
   ·rw[HFL.out.1];exact Wq H3.out _ _ _ _ _ _ _ _ _ _
   ·exact Zh (Z8E _ _) hc1 _ _ _ _ _ _ _ _ _ _
 ·intro L v W hL C;obtain⟨c,y,e4,hc1,hcb,hy⟩:=C.put (hL 18 (by decide));have HCB:=Z8r C.b;have HY:=Z8r (And.intro hcb hy);have HRS:=Z8r hrest;have H17:=Z8r (And.intro (hL 17 (by decide)) e4);clear C hcb hy hL hrest;simp only[putF,putL,Z8Q,Z9I,Zaw,ZaH,Z9P,Zat,Z9W];go_wp2
  go_step3
  simp only[Exit.then];rename_i hKK;refine hKK _ _ (HRS.out _ _ ?_);refine⟨c,0,fun j=>if j=2 then y 9 else if j=3 then y 12 else if j=4 then y 15 else .slice none 0 0,rfl,rfl,rfl,H17.out.2,rfl,Z9n _,?_⟩;have hsz:=HCB.out.size;have hG: ∀b,flG wa W L v b→w.heap.size+2≤b∧b<W.heap.size∧b≠c:=fun b hb=>⟨by have:=hb.1;omega,hb.2.1,fun e=>hb.2.2 H17.out.1 (by rw[e];exact H17.out.2)⟩;refine⟨HWA.out.trans (HCB.out.mono (by omega)),(HCB.out.block _ (by omega)).trans HBZ.out.2,by omega,HY.out.1,fun j hj=> ?_⟩;have:j=0∨j=1∨j=2∨j=3∨j=4:=by omega
  rcases this with rfl|rfl|rfl|rfl|rfl
  ·exact .nil _ _ (by unfold maxLen;omega)
  ·exact .nil _ _ (by unfold maxLen;omega)
  ·exact(HY.out.2 9 (by unfold flR;omega)).mono hG
  ·exact(HY.out.2 12 (by unfold flR;omega)).mono hG
  ·exact(HY.out.2 15 (by unfold flR;omega)).mono hG
end Vm
end
section
namespace Vm
open Go
open Go.Proofs
set_option maxRecDepth 100000
def p3:Fn:=⟨24,[0,1,2,3,4,5,6,10,11,12,13,25,14,15,67,66,68,17,65,18,19,20,21,97],
pQ [pR [(5,pS 0 10),(6,pS 1 7),pV 7 pF],pC [pK 24 11 []] [pV 8 (.s 24)],pR [(9,pM (.mm 5 0 10) 10)],pQ [pR [pV 10 (pI 1)]] (.block 0 (.loop [0,1,2,3,4,5,6,7,8,9,10] (pQ [pQ [pR [pV 11 (.bin .leq (.s 10) (pI 4))]] (.cond (.s 11) .skip (.exit 0)),.block 1 (pC [pK 25 13 [.mm 9 0 10,.s 10],pK 26 13 [.mm 9 0 10,.s 10],pK 27 12 [.mm 9 0 10,.s 10,.slc (.s 25) (pI 0) (.mn (.len (.s 26)) (pI 12)) 1]] [(9,pS 27 10)])] (pR [pV 10 (.bin .add (.s 10) (pI 1))])))),pR [(9,.m [.m 9 0,.m 9 1,.m 9 2,.m 9 3,.m 9 4,.m 9 5,.m 9 6,.m 9 7,.m 9 8,.slc (.m 5 9) (pI 0) (.mn (.len (.m 5 9)) (pI 20)) 1])],pC [pK 28 14 [.mm 6 0 7]] [(12,pS 28 10)],pC [pK 29 15 [.mm 6 0 7]] [(13,pS 29 10)],pQ [pC [pK 30 16 [.mm 12 0 10,.s 2,.s 3,.s 4],pK 31 16 [.mm 13 0 10,.s 2,.s 3,.s 4]] [pV 14 (pI 0),pV 15 (.len (.lit [.mm 9 0 10,.mm 12 0 10,.mm 13 0 10,.sz (.s 30) 10,.sz (.s 31) 10])),pV 18 (.lit [.mm 9 0 10,.mm 12 0 10,.mm 13 0 10,.sz (.s 30) 10,.sz (.s 31) 10])]] (.block 2 (.loop [0,1,2,3,4,5,6,7,8,9,10,11,12,13,14,15,18] (pQ [pR [pV 16 (.bin .lss (.s 14) (.s 15))],.cond (.s 16) .skip (.exit 2),.block 3 (pQ [pR [(17,pM (.flds (.idx (.s 18) (.s 14) 10) 0 10) 10)],pC [pK 32 17 [.mm 17 0 10]] [(19,pM (.sz (.ext (.s 32) 0) 10) 10),pV 20 (.ext (.s 32) 1)],pC [pK 33 18 [.mm 17 0 10]] [(21,pM (.sz (.ext (.s 33) 0) 10) 10),pV 22 (.ext (.s 33) 1)],.reg ⟨[.lt 34 [] (.bin .neq (.s 20) (.s 22)),.call 35 [(34,false)] (.id 19) false false [.mm 19 0 10,.mm 21 0 10],.lt 36 [] (.ite (.s 34) pT (.un .not (.s 35))),.call 37 [(36,false)] (.id 20) false false [.mm 17 0 10],.call 38 [(36,false)] (.id 21) false false [.mm 17 0 10],.call 39 [(36,false)] (.id 19) false false [.s 37,.s 38]],[([(34,false)],.un .not (.s 35)),([(36,false)],.un .not (.s 39))],[pV 23 (.ite (.s 36) pT (.un .not (.s 39)))]⟩] (.cond (.s 23) (pQ [pR [pV 7 pF]] .ret) .skip))] (pR [pV 14 (.bin .add (.s 14) (pI 1))])))),pR [pV 7 (.s 8)]] .ret,[(7,.v)]⟩
theorem c3:Zc Try.prog fresh sig [.fz,.fz,.fz,.fz,.fz] [] Try.f3=some p3:=by kernel_rfl
def p4:Fn:=⟨14,[0,1,2,3,4,5,6,27,7,32,47,8,50,75],
pQ [pR [(1,pS 0 7),pV 2 pF],pC [pK 14 11 []] [pV 3 (.s 14)],pC [pK 15 15 [.mm 1 0 7]] [(4,pS 15 10)],pC [pK 16 17 [.mm 4 0 10]] [(5,pM (.sz (.ext (.s 16) 0) 10) 10),pV 6 (.ext (.s 16) 1)],pQ [.reg ⟨[.lt 17 [] (.bin .neq (.s 6) (pI 0))],[([(17,false)],.bin .neq (.len (.m 5 9)) (.len (.m 4 9)))],[pV 7 (.ite (.s 17) pT (.bin .neq (.len (.m 5 9)) (.len (.m 4 9))))]⟩] (.cond (.s 7) (pQ [pR [pV 2 pF]] .ret) .skip),pQ [pR [pV 8 (pI 0)]] (.block 0 (.loop [0,1,2,3,4,5,6,7,8] (pQ [pQ [pR [pV 9 (.bin .lss (.s 8) (.len (.m 4 9)))]] (.cond (.s 9) .skip (.exit 0)),.block 1 (pQ [pQ [pR [pV 10 (.eqv true (.bin .eql (.fld (.idx (.m 5 9) (.s 8) 1) 0) (pU 0)) (.bin .eql (.fld (.idx (.m 4 9) (.s 8) 1) 0) (pU 0)))]] (.cond (.s 10) (pQ [pR [pV 2 pF]] .ret) .skip),pR [pV 11 (pI 0)]] (.block 2 (.loop [0,1,2,3,4,5,6,7,8,9,10,11] (pQ [pQ [pR [pV 12 (.bin .lss (.s 11) (.s 8))]] (.cond (.s 12) .skip (.exit 2)),.block 3 (pQ [pR [pV 13 (.eqv true (.bin .eql (.fld (.idx (.m 5 9) (.s 8) 1) 0) (.fld (.idx (.m 5 9) (.s 11) 1) 0)) (.bin .eql (.fld (.idx (.m 4 9) (.s 8) 1) 0) (.fld (.idx (.m 4 9) (.s 11) 1) 0)))]] (.cond (.s 13) (pQ [pR [pV 2 pF]] .ret) .skip))] (pR [pV 11 (.bin .add (.s 11) (pI 1))])))))] (pR [pV 8 (.bin .add (.s 8) (pI 1))])))),pR [pV 2 (.s 3)]] .ret,[(2,.v)]⟩
theorem c4:Zc Try.prog fresh sig [.fz] [] Try.f4=some p4:=by kernel_rfl
def p5:Fn:=⟨26,[0,1,2,3,4,5,6,7,61,8,9,68,71,101,10,103,11,12,13,14,120,15,124,16,151,180],
pQ [pR [(1,pS 0 7),pV 2 pF],pC [pK 26 11 []] [pV 3 (.s 26)],pC [pK 27 15 [.mm 1 0 7]] [(4,pS 27 10)],pR [(5,pM (.mm 4 0 10) 10)],pR [(5,.m [.m 5 0,.m 5 1,.m 5 2,.m 5 3,.m 5 4,.m 5 5,.m 5 6,.m 5 7,.m 5 8,.mk (.int .u64 0) (.len (.m 4 9))])],pC [pK 28 17 [.mm 5 0 10]] [(6,pM (.sz (.ext (.s 28) 0) 10) 10),pV 7 (.fl (.ext (.s 28) 1))],pQ [.reg ⟨[.lt 29 [] (.bin .neq (.s 7) (pI 0)),.lt 30 [] (.ite (.s 29) pT (.m 6 3)),.lt 31 [] (.ite (.s 30) pT (.bin .neq (.bin .add (.bin .add (.bin .add (.len (.m 6 5)) (.len (.m 6 6))) (.len (.m 6 7))) (.len (.m 6 8))) (pI 0))),.call 32 [(31,false)] (.id 20) false false [.mm 6 0 10],.call 33 [(31,false)] (.id 19) false false [.s 32,.mm 6 0 10]],[([(29,false)],.m 6 3),([(30,false)],.bin .neq (.bin .add (.bin .add (.bin .add (.len (.m 6 5)) (.len (.m 6 6))) (.len (.m 6 7))) (.len (.m 6 8))) (pI 0)),([(31,false)],.un .not (.s 33))],[pV 8 (.ite (.s 31) pT (.un .not (.s 33)))]⟩] (.cond (.s 8) (pQ [pR [pV 2 pF]] .ret) .skip),pC [pK 34 17 [.mm 4 0 10]] [(9,pM (.sz (.ext (.s 34) 0) 10) 10),pV 10 (.ext (.s 34) 1)],pQ [pR [pV 11 (.bin .neq (.s 10) (pI 0))]] (.cond (.s 11) (pQ [pR [pV 2 pF]] .ret) .skip),pQ [pR [pV 12 (.un .not (.m 9 3))]] (.cond (.s 12) (pQ [pC [.lt 35 [] (.s 3),.call 36 [(35,true)] (.id 20) false false [.mm 9 0 10],.call 37 [(35,true)] (.id 19) false false [.s 36,.mm 9 0 10]] [pV 2 (.ite (.s 35) (.s 37) pF)]] .ret) .skip),pQ [.reg ⟨[.lt 38 [] (.bin .neq (.len (.m 9 7)) (.len (.m 4 5))),.lt 39 [] (.ite (.s 38) pT (.bin .neq (.len (.m 9 8)) (.len (.m 4 6)))),.call 40 [(39,false)] (.id 20) false false [.mm 9 0 10],.call 41 [(39,false)] (.id 19) false false [.s 40,pY]],[([(38,false)],.bin .neq (.len (.m 9 8)) (.len (.m 4 6))),([(39,false)],.un .not (.s 41))],[pV 13 (.ite (.s 39) pT (.un .not (.s 41)))]⟩] (.cond (.s 13) (pQ [pR [pV 2 pF]] .ret) .skip),pQ [pR [pV 14 (pI 3)]] (.block 0 (.loop [0,1,2,3,4,5,6,7,8,9,10,11,12,13,14] (pQ [pQ [pR [pV 15 (.bin .leq (.s 14) (pI 4))]] (.cond (.s 15) .skip (.exit 0)),.block 1 (pQ [pC [pK 42 22 [.mm 9 0 10,.s 14]] [pV 16 (.ext (.s 42) 0),pV 17 (.ext (.s 42) 1)],pC [pK 43 13 [.mm 4 0 10,.bin .sub (.s 14) (pI 2)]] [pV 18 (.s 43)],pC [pK 44 13 [.mm 9 0 10,.s 14]] [pV 19 (.s 44)],pQ [pR [pV 20 (.bin .neq (.s 17) (pI 0))]] (.cond (.s 20) (pQ [pR [pV 2 pF]] .ret) .skip),pR [pV 21 (pI 0)]] (.block 2 (.loop [0,1,2,3,4,5,6,7,8,9,10,11,12,13,14,15,16,17,18,19,20,21] (pQ [pQ [pR [pV 22 (.bin .lss (.s 21) (.len (.s 16)))]] (.cond (.s 22) .skip (.exit 2)),.block 3 (pQ [pR [(23,pM (.flds (.idx (.s 16) (.s 21) 5) 0 5) 5)],pQ [.reg ⟨[.lt 45 [] (.bin .lss (.m 23 0) (pI 0)),.lt 46 [] (.ite (.s 45) pT (.bin .lss (.m 23 1) (pI 0)))],[([(45,false)],.bin .lss (.m 23 1) (pI 0)),([(46,false)],.bin .gtr (.bin .add (.bin .add (.m 23 0) (pI 1)) (.m 23 1)) (.len (.s 18)))],[pV 24 (.ite (.s 46) pT (.bin .gtr (.bin .add (.bin .add (.m 23 0) (pI 1)) (.m 23 1)) (.len (.s 18))))]⟩] (.cond (.s 24) (pQ [pR [pV 2 pF]] .ret) .skip),.reg ⟨[.lt 47 [] (.un .not (.m 23 3)),.call 48 [(47,true)] (.id 23) false false [.slc (.s 18) (.m 23 0) (.bin .add (.bin .add (.m 23 0) (pI 1)) (.m 23 1)) 1,.slc (.s 19) (.m 23 0) (.bin .add (.bin .add (.m 23 0) (pI 1)) (.m 23 1)) 1]],[([(47,true)],.un .not (.s 48))],[pV 25 (.ite (.s 47) (.un .not (.s 48)) pF)]⟩] (.cond (.s 25) (pQ [pR [pV 2 pF]] .ret) .skip))] (pR [pV 21 (.bin .add (.s 21) (pI 1))])))))] (pR [pV 14 (.bin .add (.s 14) (pI 1))])))),pR [pV 2 (.s 3)]] .ret,[(2,.v)]⟩
theorem c5:Zc Try.prog fresh sig [.fz] [] Try.f5=some p5:=by kernel_rfl
def p6:Fn:=⟨10,[0,1,2,3,4,5,6,17,7,27],
pQ [pR [(1,pS 0 7),pV 2 pF],pC [pK 10 11 []] [pV 3 (.s 10)],pC [pK 11 15 [.mm 1 0 7]] [(4,pS 11 10)],pC [pK 12 17 [.mm 4 0 10]] [(5,pM (.sz (.ext (.s 12) 0) 10) 10),pV 6 (.ext (.s 12) 1)],pQ [pR [pV 7 (.bin .neq (.s 6) (pI 0))]] (.cond (.s 7) (pQ [pR [pV 2 pF]] .ret) .skip),pR [pV 8 (.bin .add (.len (.m 4 5)) (.len (.m 4 6)))],pQ [pR [pV 9 (.un .not (.m 5 3))]] (.cond (.s 9) (pQ [.reg ⟨[.lt 13 [] (.s 3),.lt 14 [] (.ite (.s 13) (.bin .eql (.bin .add (.len (.m 5 5)) (.len (.m 5 6))) (pI 0)) pF),.call 15 [(14,true)] (.id 25) false false [.mm 5 0 10],.call 16 [(14,true)] (.id 24) false false [.s 15],.lt 17 [] (.ite (.s 14) (.bin .eql (.s 16) (.m 4 1)) pF)],[([(13,true)],.bin .eql (.bin .add (.len (.m 5 5)) (.len (.m 5 6))) (pI 0)),([(14,true)],.bin .eql (.s 16) (.m 4 1)),([(17,true)],.bin .eql (.m 5 2) (.bin .sub (pI 1) (.m 4 2)))],[pV 2 (.ite (.s 17) (.bin .eql (.m 5 2) (.bin .sub (pI 1) (.m 4 2))) pF)]⟩] .ret) .skip),.reg ⟨[.lt 18 [] (.s 3),.call 19 [(18,true)] (.id 26) false false [.mm 5 0 10],.lt 20 [] (.ite (.s 18) (.bin .eql (.bin .add (.len (.m 5 5)) (.s 19)) (.s 8)) pF),.call 21 [(20,true)] (.id 25) false false [.mm 5 0 10],.call 22 [(20,true)] (.id 24) false false [.s 21],.lt 23 [] (.ite (.s 20) (.bin .eql (.s 22) (.bin .sub (.m 4 1) (.len (.m 5 5)))) pF),.lt 24 [] (.ite (.s 23) (.bin .eql (.m 5 2) (.bin .sub (pI 1) (.m 4 2))) pF),.lt 25 [] (.ite (.s 24) (.bin .eql (.m 5 1) (.m 4 1)) pF)],[([(18,true)],.bin .eql (.bin .add (.len (.m 5 5)) (.s 19)) (.s 8)),([(20,true)],.bin .eql (.s 22) (.bin .sub (.m 4 1) (.len (.m 5 5)))),([(23,true)],.bin .eql (.m 5 2) (.bin .sub (pI 1) (.m 4 2))),([(24,true)],.bin .eql (.m 5 1) (.m 4 1)),([(25,true)],.bin .eql (.m 5 0) (.m 4 0))],[pV 2 (.ite (.s 25) (.bin .eql (.m 5 0) (.m 4 0)) pF)]⟩] .ret,[(2,.v)]⟩
theorem c6:Zc Try.prog fresh sig [.fz] [] Try.f6=some p6:=by kernel_rfl
def p11:Fn:=⟨11,[0,1,2,3,4,5,6,7,8,9,10],
pQ [pR [pV 0 pF],.reg ⟨[],[([],.ag [pU 10,pI 5,pI 0,pF,pI 2,.lit [pU 2,pU 6],pN,pN,pN,.lit [pU 21]])],[(1,.m [pU 10,pI 5,pI 0,pF,pI 2,.lit [pU 2,pU 6],pN,pN,pN,.lit [pU 21]])]⟩,pC [pK 11 17 [.mm 1 0 10]] [(2,pM (.sz (.ext (.s 11) 0) 10) 10),pV 3 (.fl (.ext (.s 11) 1))],pC [pK 12 17 [.mm 2 0 10]] [(4,pM (.sz (.ext (.s 12) 0) 10) 10),pV 5 (.ext (.s 12) 1)],pC [pK 13 17 [pY]] [(6,pM (.sz (.ext (.s 13) 0) 10) 10),pV 7 (.ext (.s 13) 1)],pR [(8,pM (.mm 1 0 10) 10)],pR [(8,.m [.m 8 0,.m 8 1,.m 8 2,.m 8 3,.m 8 4,.m 8 5,.m 8 6,.m 8 7,.m 8 8,.lit [pU 0]])],pC [pK 14 17 [.mm 8 0 10]] [(9,pM (.sz (.ext (.s 14) 0) 10) 10),pV 10 (.fl (.ext (.s 14) 1))],.reg ⟨[.lt 15 [] (.bin .eql (.s 3) (pI 0)),.call 16 [(15,true)] (.id 19) false false [.mm 2 0 10,.ag [pU 10,pI 5,pI 1,pT,pI 0,.lit [pU 2,pU 6],pN,.lit [pU 31,pU 0],pN,.lit [pU 31]]],.lt 17 [] (.ite (.s 15) (.s 16) pF),.lt 18 [] (.ite (.s 17) (.bin .eql (.s 5) (pI 10)) pF),.lt 19 [] (.ite (.s 18) (.bin .eql (.s 7) (pI 1)) pF),.lt 20 [] (.ite (.s 19) (.bin .eql (.s 10) (pI 0)) pF),.call 21 [(20,true)] (.id 19) false false [.mm 9 0 10,.ag [pU 10,pI 5,pI 1,pF,pI 0,pN,pN,pN,pN,.lit [pU 0]]],.lt 22 [] (.ite (.s 20) (.s 21) pF),.call 23 [(22,true)] (.id 20) false false [.mm 1 0 10],.call 24 [(22,true)] (.id 19) false false [.s 23,.mm 1 0 10],.lt 25 [] (.ite (.s 22) (.s 24) pF),.call 26 [(25,true)] (.id 20) false false [.mm 2 0 10],.call 27 [(25,true)] (.id 19) false false [.s 26,pY]],[([(17,true)],.bin .eql (.s 5) (pI 10)),([(18,true)],.bin .eql (.s 7) (pI 1)),([(19,true)],.bin .eql (.s 10) (pI 0))],[pV 0 (.ite (.s 25) (.s 27) pF)]⟩] .ret,[(0,.v)]⟩
theorem c11:Zc Try.prog fresh sig [] [] Try.f11=some p11:=by kernel_rfl
def p18:Fn:=⟨14,[0,1,2,3,4,13,16,5,6,37,8,7,9,68],
pQ [pR [(1,pS 0 10),(2,pZ),pV 3 (pI 0)],pC [pK 14 40 [.mm 1 0 10]] [pV 4 (.s 14)],pQ [pR [pV 5 (.un .not (.s 4))]] (.cond (.s 5) (pQ [.reg ⟨[],[([],pY)],[(2,pZ),pV 3 (pI 1)]⟩] .ret) .skip),pQ [pR [pV 6 (.m 1 3)]] (.cond (.s 6) (pQ [.reg ⟨[],[([],pY)],[(2,pZ),pV 3 (pI 10)]⟩] .ret) .skip),.reg ⟨[],[([],.ag [.m 1 0,.m 1 1,.bin .sub (pI 1) (.m 1 2),pF,pI 0,pN,pN,.m 1 5,.m 1 6,.app pN (.m 1 9) 1])],[(7,.m [.m 1 0,.m 1 1,.bin .sub (pI 1) (.m 1 2),pF,pI 0,pN,pN,.m 1 5,.m 1 6,.app pN (.m 1 9) 1])]⟩,pQ [pR [pV 8 (pI 0)]] (.block 0 (.loop [0,1,2,3,4,5,6,7,8] (pQ [pQ [pR [pV 9 (.bin .lss (.s 8) (.len (.m 1 9)))]] (.cond (.s 9) .skip (.exit 0)),.block 1 (pQ [pC [pK 15 41 [.mm 7 0 10,.fld (.idx (.m 1 9) (.s 8) 1) 0]] [(10,pM (.sz (.ext (.s 15) 1) 10) 10),pV 11 (.ext (.s 15) 0),pV 12 (.ext (.s 15) 2)],pR [(10,.m [.m 10 0,.m 10 1,.m 10 2,.m 10 3,.m 10 4,.m 10 5,.m 10 6,.m 10 7,.m 10 8,.app pN (.m 10 9) 1])],.reg ⟨[],[([],.idx (.m 10 9) (.s 8) 1)],[(10,.m [.m 10 0,.m 10 1,.m 10 2,.m 10 3,.m 10 4,.m 10 5,.m 10 6,.m 10 7,.m 10 8,.upd (.m 10 9) (.s 8) 0 (.one (.s 11))])]⟩] (pR [(7,pM (.mm 10 0 10) 10)]))] (pR [pV 8 (.bin .add (.s 8) (pI 1))])))),pR [(7,.m [.m 7 0,.m 7 1,.m 7 2,.bin .gtr (.len (.m 7 5)) (pI 0),.m 7 4,.m 7 5,.m 7 6,.m 7 7,.m 7 8,.m 7 9])],pQ [pR [pV 13 (.un .not (.m 7 3))]] (.cond (.s 13) (pQ [pR [(7,.m [.m 7 0,.m 7 1,.m 7 2,.m 7 3,.m 7 4,.m 7 5,.m 7 6,pN,.m 7 8,.m 7 9])]] (pR [(7,.m [.m 7 0,.m 7 1,.m 7 2,.m 7 3,.m 7 4,.m 7 5,.m 7 6,.m 7 7,pN,.m 7 9])])) .skip),pR [(2,pM (.mm 7 0 10) 10),pV 3 (pI 0)]] .ret,[(2,(.ag 10)),(3,.v)]⟩
theorem c18:Zc Try.prog fresh sig [.fz] [] Try.f18=some p18:=by kernel_rfl
end Vm
end
section
namespace Vm
open Go Go.Proofs Go.RowKit
set_option maxHeartbeats 1000000
set_option maxRecDepth 100000
theorem jn(w:World)(G:Nat→Prop)(hG: ∀b,G b→b<w.heap.size)(h:Hp)(hh:h.ok)(src:Nat→Value)(hs: ∀j,j<5→Rd w G (.sl ((lsH h j).map vu)) (src j)):
  Calls Try.prog 17 #[hpA h src] w (X5 w (QJ h)):=by
 cases hr:ZD h with
 |false=>
  rw[show QJ h=(Hp.zero,1)by unfold QJ;rw[if_pos hr]];exact Z2T w G hG h hh src hs hr
 |true=>
  cases hc:h.cycle with
  |true=>
   rw[show QJ h=(Hp.zero,10)by unfold QJ;rw[if_neg (by rw[hr];simp),if_pos hc]];exact Z3G w G hG h hh src hs hr hc
  |false=>
   obtain⟨p,r⟩:=Xb.1 hr;rw[show QJ h=(Y3 h,0)by unfold QJ;rw[if_neg (by rw[hr];simp),if_neg (by rw[hc];simp)]];exact Z3n w G hG h hh src hs r hc
end Vm
end
section
namespace Vm
open Go Go.Proofs Go.RowKit
set_option maxHeartbeats 1000000
set_option maxRecDepth 100000
end Vm
end
section
namespace Vm
open Go
open Go.Proofs
set_option maxRecDepth 100000
def p7:Fn:=⟨17,[0,1,2,3,6,7,8,9,10,11,12,13,14,15,16,17,18],
pQ [pR [(3,pS 0 7),pV 4 pF],pC [pK 17 27 []] [pV 5 (.s 17)],pC [pK 18 14 [.mm 3 0 7]] [(6,pS 18 10)],pC [pK 19 28 [.s 1,pI 40]] [pV 7 (.s 19)],pC [pK 20 28 [.s 2,pI 40]] [pV 8 (.s 20)],pC [pK 21 29 [.mm 6 0 10,.s 7]] [(9,pM (.sz (.ext (.s 21) 0) 10) 10),pV 10 (.ext (.s 21) 1)],pC [pK 22 29 [.mm 9 0 10,.s 8]] [(11,pM (.sz (.ext (.s 22) 0) 10) 10),pV 12 (.ext (.s 22) 1)],pC [pK 23 29 [.mm 6 0 10,.bin .add (.s 7) (.s 8)]] [(13,pM (.sz (.ext (.s 23) 0) 10) 10),pV 14 (.ext (.s 23) 1)],pC [pK 24 29 [.mm 6 0 10,pI 0]] [(15,pM (.sz (.ext (.s 24) 0) 10) 10),pV 16 (.ext (.s 24) 1)],.reg ⟨[.lt 25 [] (.s 5),.lt 26 [] (.ite (.s 25) (.bin .eql (.s 10) (pI 0)) pF),.lt 27 [] (.ite (.s 26) (.bin .eql (.s 12) (pI 0)) pF),.lt 28 [] (.ite (.s 27) (.bin .eql (.s 14) (pI 0)) pF),.lt 29 [] (.ite (.s 28) (.bin .eql (.s 16) (pI 0)) pF),.call 30 [(29,true)] (.id 19) false false [.mm 11 0 10,.mm 13 0 10],.lt 31 [] (.ite (.s 29) (.s 30) pF),.call 32 [(31,true)] (.id 19) false false [.mm 15 0 10,.mm 6 0 10]],[([(25,true)],.bin .eql (.s 10) (pI 0)),([(26,true)],.bin .eql (.s 12) (pI 0)),([(27,true)],.bin .eql (.s 14) (pI 0)),([(28,true)],.bin .eql (.s 16) (pI 0))],[pV 4 (.ite (.s 31) (.s 32) pF)]⟩] .ret,[(4,.v)]⟩
theorem c7:Zc Try.prog fresh sig [.fz,.fz,.fz] [] Try.f7=some p7:=by kernel_rfl
def p8:Fn:=⟨24,[0,1,2,3,6,7,8,9,10,11,12,59,13,63,76,14,15,16,17,99,18,103,114,19],
pQ [pR [(3,pS 0 7),pV 4 pF],pC [pK 24 27 []] [pV 5 (.s 24)],pC [pK 25 14 [.mm 3 0 7]] [(6,pS 25 10)],pC [pK 26 28 [.s 1,pI 30],pK 27 29 [.mm 6 0 10,.s 26]] [(7,pM (.sz (.ext (.s 27) 0) 10) 10),pV 8 (.ext (.s 27) 1)],pC [pK 28 28 [.s 2,pI 30],pK 29 29 [.mm 7 0 10,.s 28]] [(9,pM (.sz (.ext (.s 29) 0) 10) 10),pV 10 (.ext (.s 29) 1)],pQ [.reg ⟨[.lt 30 [] (.bin .neq (.s 8) (pI 0)),.lt 31 [] (.ite (.s 30) pT (.bin .neq (.s 10) (pI 0))),.lt 32 [] (.ite (.s 31) pT (.bin .lss (.len (.m 9 5)) (.len (.m 7 5))))],[([(30,false)],.bin .neq (.s 10) (pI 0)),([(31,false)],.bin .lss (.len (.m 9 5)) (.len (.m 7 5))),([(32,false)],.bin .gtr (.m 7 4) (.len (.m 7 5)))],[pV 11 (.ite (.s 32) pT (.bin .gtr (.m 7 4) (.len (.m 7 5))))]⟩] (.cond (.s 11) (pQ [pR [pV 4 pF]] .ret) .skip),pQ [pR [pV 12 (pI 0)]] (.block 0 (.loop [0,1,2,3,4,5,6,7,8,9,10,11,12] (pQ [pQ [pR [pV 13 (.bin .lss (.s 12) (.m 7 4))]] (.cond (.s 13) .skip (.exit 0)),.block 1 (pQ [pR [pV 14 (.bin .neq (.fld (.idx (.m 7 5) (.s 12) 1) 0) (.fld (.idx (.m 9 5) (.s 12) 1) 0))]] (.cond (.s 14) (pQ [pR [pV 4 pF]] .ret) .skip))] (pR [pV 12 (.bin .add (.s 12) (pI 1))])))),pC [pK 33 22 [.mm 7 0 10,pI 1]] [pV 15 (.ext (.s 33) 0),pV 16 (.ext (.s 33) 1)],pC [pK 34 22 [.mm 9 0 10,pI 1]] [pV 17 (.ext (.s 34) 0),pV 18 (.ext (.s 34) 1)],pQ [.reg ⟨[.lt 35 [] (.bin .neq (.s 16) (pI 0)),.lt 36 [] (.ite (.s 35) pT (.bin .neq (.s 18) (pI 0)))],[([(35,false)],.bin .neq (.s 18) (pI 0)),([(36,false)],.bin .lss (.len (.s 17)) (.len (.s 15)))],[pV 19 (.ite (.s 36) pT (.bin .lss (.len (.s 17)) (.len (.s 15))))]⟩] (.cond (.s 19) (pQ [pR [pV 4 pF]] .ret) .skip),pQ [pR [pV 20 (pI 0)]] (.block 2 (.loop [0,1,2,3,4,5,6,7,8,9,10,11,12,13,15,16,17,18,19,20] (pQ [pQ [pR [pV 21 (.bin .lss (.s 20) (.len (.s 15)))]] (.cond (.s 21) .skip (.exit 2)),.block 3 (pQ [pR [pV 22 (.un .not (.ite (.bin .eql (.fld (.sz (.isag (.flds (.idx (.s 15) (.s 20) 5) 0 5)) 5) 0) (.fld (.sz (.isag (.flds (.idx (.s 17) (.s 20) 5) 0 5)) 5) 0)) (.ite (.ite (.bin .eql (.fld (.sz (.isag (.flds (.idx (.s 15) (.s 20) 5) 0 5)) 5) 1) (.fld (.sz (.isag (.flds (.idx (.s 17) (.s 20) 5) 0 5)) 5) 1)) (.ite (.bin .eql (.fld (.sz (.isag (.flds (.idx (.s 15) (.s 20) 5) 0 5)) 5) 2) (.fld (.sz (.isag (.flds (.idx (.s 17) (.s 20) 5) 0 5)) 5) 2)) pT pF) pF) (.ite (.eqv false (.fld (.sz (.isag (.flds (.idx (.s 15) (.s 20) 5) 0 5)) 5) 3) (.fld (.sz (.isag (.flds (.idx (.s 17) (.s 20) 5) 0 5)) 5) 3)) (.ite (.bin .eql (.fld (.sz (.isag (.flds (.idx (.s 15) (.s 20) 5) 0 5)) 5) 4) (.fld (.sz (.isag (.flds (.idx (.s 17) (.s 20) 5) 0 5)) 5) 4)) pT pF) pF) pF) pF))]] (.cond (.s 22) (pQ [pR [pV 4 pF]] .ret) .skip))] (pR [pV 20 (.bin .add (.s 20) (pI 1))])))),pR [pV 23 (.bin .sub (.len (.m 9 5)) (.len (.m 7 5)))],.reg ⟨[.lt 37 [] (.s 5),.call 38 [(37,true)] (.id 26) false false [.mm 7 0 10],.lt 39 [] (.ite (.s 37) (.bin .leq (.s 23) (.s 38)) pF),.lt 40 [(39,true)] (.un .not (.m 9 3)),.call 41 [(39,true),(40,false)] (.id 26) false false [.mm 7 0 10],.call 42 [(39,true),(40,false)] (.id 26) false false [.mm 9 0 10]],[([(37,true)],.bin .leq (.s 23) (.s 38)),([(39,true),(40,false)],.bin .eql (.s 23) (.bin .sub (.s 41) (.s 42))),([(39,true)],.ite (.s 40) pT (.bin .eql (.s 23) (.bin .sub (.s 41) (.s 42))))],[pV 4 (.ite (.s 39) (.ite (.s 40) pT (.bin .eql (.s 23) (.bin .sub (.s 41) (.s 42)))) pF)]⟩] .ret,[(4,.v)]⟩
theorem c8:Zc Try.prog fresh sig [.fz,.fz,.fz] [] Try.f8=some p8:=by kernel_rfl
def p29:Fn:=⟨6,[0,1,2,4,5,12],
pQ [pR [(2,pS 0 10),(3,pZ),pV 4 (pI 0)],pQ [.reg ⟨[.lt 6 [] (.bin .lss (.s 1) (pI 0)),.call 7 [(6,false)] (.id 33) false false [.mm 2 0 10]],[([(6,false)],.un .not (.s 7))],[pV 5 (.ite (.s 6) pT (.un .not (.s 7)))]⟩] (.cond (.s 5) (pQ [.reg ⟨[],[([],pY)],[(3,pZ),pV 4 (pI 1)]⟩] .ret) .skip),pC [pK 8 46 [.mm 2 0 10,.s 1]] [(3,pM (.sz (.ext (.s 8) 0) 10) 10),pV 4 (.ext (.s 8) 1)]] .ret,[(3,(.ag 10)),(4,.v)]⟩
theorem c29:Zc Try.prog fresh sig [.fz,.fz] [] Try.f29=some p29:=by kernel_rfl
def p78:Fn:=⟨3,[0,1,2],
pQ [pR [(1,pS 0 10),(2,pZ)],pC [pK 3 103 [.m 1 5],pK 4 103 [.m 1 6]] [(1,.m [.m 1 0,.m 1 1,.m 1 2,.m 1 3,.m 1 4,.one (.s 3),.one (.s 4),.m 1 7,.m 1 8,.m 1 9])],pC [pK 5 103 [.m 1 7],pK 6 103 [.m 1 8]] [(1,.m [.m 1 0,.m 1 1,.m 1 2,.m 1 3,.m 1 4,.m 1 5,.m 1 6,.one (.s 5),.one (.s 6),.m 1 9])],pC [pK 7 103 [.m 1 9]] [(1,.m [.m 1 0,.m 1 1,.m 1 2,.m 1 3,.m 1 4,.m 1 5,.m 1 6,.m 1 7,.m 1 8,.one (.s 7)])],pR [(2,pM (.mm 1 0 10) 10)]] .ret,[(2,(.ag 10))]⟩
theorem c78:Zc Try.prog fresh sig [.fz] [] Try.f78=some p78:=by kernel_rfl
end Vm
end
section
namespace Vm
open Go Go.Proofs Go.RowKit
set_option maxHeartbeats 1000000
set_option maxRecDepth 100000
theorem Ui{l:List Int}(hl:l.length≤1000000):VC Try.prog 103 false [.sl (l.map vu)] (.sl (l.map vu)):=by
 refine⟨by kernel_rfl,fun w G vs hG hsz hvs=> ?_⟩;have r0:=hvs 0 _ rfl
 have he:vs= #[vs.getD 0 undef]:=by
  have hs3:vs.size=1:=hsz;apply Zbh
  ·simp[hs3]
  ·intro i h1 h2;have hi:i<1:=by omega
   match i,hi with
   |0,_=>simp[Array.getD,hs3]
 rw[he];refine(LO w hG hl r0).mono ?_;rintro e w' ⟨v,rfl,hb,hr⟩;exact⟨v,rfl,hb,hr.mono fun b hb=> .inr hb⟩
theorem Z4H{h:Hp}(hh:h.ok):VC Try.prog 78 false [hpV h] (hpV h):=by
 refine Z6 Try.func78 follows (by kernel_rfl) c78 rfl ?_;have f1:=Ui hh.low;have f2:=Ui hh.high;have f3:=Ui hh.old;have f4:=Ui hh.far;have f5:=Ui hh.roots;simp[p78,hpV];refine Z0 f1 (by simp) ?_;simp;refine Z0 f2 (by simp) ?_;simp;refine Z0 f3 (by simp) ?_;simp;refine Z0 f4 (by simp) ?_;simp;refine Z0 f5 (by simp) ?_;simp
theorem jq(w:World)(G:Nat→Prop)(hG: ∀b,G b→b<w.heap.size)(h:Hp)(hh:h.ok)(src:Nat→Value)(hs: ∀j,j<5→Rd w G (.sl ((lsH h j).map vu)) (src j)):
  Calls Try.prog 78 #[hpA h src] w fun e w'=> ∃x,e= .returned (hpA h x)∧Below w.heap.size w w'∧ ∀j,j<5→Rd w' (fun c=>G c∨(w.heap.size≤c∧c<w'.heap.size)) (.sl ((lsH h j).map vu)) (x j):=by
 refine((Z4H hh).2 w G #[hpA h src] hG rfl fun i x hx=> ?_).mono ?_
 ·match i,hx with
  |0,hx=>cases hx;exact Qr hs
 ·rintro e w' ⟨v,rfl,hb,hr⟩;obtain⟨x,rfl,hx⟩:=Jt hr;exact⟨x,rfl,hb,fun j hj=>(hx j hj).mono fun b hb=>hb.imp (fun q=>q.2) id⟩
end Vm
end
section
namespace Vm
open Go Go.Proofs
set_option maxRecDepth 100000
theorem Xs{h:Hp}(hc:h.cycle=false): ∀k,ZG h k=h
 |0=>rfl
 |k+1=>by unfold ZG;rw[hc];simp
theorem YV(h:Hp): ∀k,ZG h (k+1)=if(ZG h k).cycle then Wo (ZG h k)else ZG h k
 |0=>by unfold ZG;cases hc:h.cycle<;>simp[ZG,hc]
 |k+1=>by
  cases hc:h.cycle with
  |false=>rw[Xs hc,Xs hc,hc];simp
  |true=>
   have e: ∀j,ZG h (j+1)=ZG (Wo h) j:=fun j=>by rw[ZG.eq_2,hc];simp
   rw[e (k+1),e k];exact YV (Wo h) k
theorem Kd(h:Hp)(a:Nat): ∀b,ZG h (a+b)=ZG (ZG h a) b
 |0=>rfl
 |b+1=>by rw[←Z9i,YV,YV,Kd h a b]
structure ScansTo (h:Hp) (p:Pts) (k:Nat) (g:Hp) (q:Pts):Prop where
 rt:Rt g q
 len:h.low.length≤g.low.length
 keep: ∀j:Nat,(j:Int) <h.scan→g.low[j]? =h.low[j]?
 high:g.high=h.high
 roots:g.roots=h.roots
 num:g.base=h.base∧g.cap=h.cap∧g.to=h.to
 scan:h.scan≤g.scan∧g.scan≤h.scan+k
 obsL: ∃r,q.low=p.low++r
 obsH:q.high=p.high
 cyc:g.cycle=true→h.cycle=true∧g.scan=h.scan+k∧(g.low.length:Int)+Yi q=h.low.length+Yi p
 roomE:(g.low.length:Int)≤h.low.length+Yi p
 whole:g.cycle=false→h.cycle=true→g.scan=g.low.length
theorem Rt.scans{h:Hp}{p:Pts}(r:Rt h p): ∀k,∃q,ScansTo h p k (ZG h k) q
 |0=>⟨p,r,Z8v _,fun _ _=>rfl,rfl,rfl,⟨rfl,rfl,rfl⟩,⟨by show h.scan≤h.scan;omega,by show h.scan≤h.scan+((0:Nat):Int);omega⟩,⟨[],by simp⟩,rfl,fun hc=>⟨hc,by show h.scan=h.scan+((0:Nat):Int);omega,rfl⟩,by show(h.low.length:Int)≤_;omega,fun hc hc'=>(by rw[show ZG h 0=h from rfl,hc']at hc;cases hc)⟩
 |k+1=>by
  obtain⟨q,s⟩:=r.scans k;rw[YV];generalize ZG h k=g at*;have hs1:=s.scan.1;have hs2:=s.scan.2;cases hc:g.cycle with
  |false=>
   simp only[Z8U,Z9f];exact⟨q,s.rt,s.len,s.keep,s.high,s.roots,s.num,⟨hs1,by omega⟩,s.obsL,s.obsH,fun h=>(by rw[hc]at h;cases h),s.roomE,fun _ h=>s.whole hc h⟩
  |true=>
   simp only[Z9c];obtain⟨g',q',f⟩:=s.rt.scan hc;obtain⟨c1,c2,c3⟩:=s.cyc hc;rw[f.eq];obtain⟨ws,hws,hkp⟩:=f.low;obtain⟨r1,e1⟩:=s.obsL;obtain⟨r2,e2⟩:=f.obsL;obtain⟨n1,n2,n3,n4⟩:=f.num;refine⟨q',f.rt,by have:=s.len;omega,fun j hj=>(hkp j (by omega)).trans (s.keep j hj),f.high.trans s.high,f.roots.trans s.roots,⟨n1.trans s.num.1,n2.trans s.num.2.1,n3.trans s.num.2.2⟩,⟨by omega,by omega⟩,⟨r1++r2,by rw[e2,e1,Z92]⟩,f.obsH.trans s.obsH,fun h2=>⟨c1,by omega,by have:=f.room h2;omega⟩,by have:=f.roomE;omega,fun h2 _=>(f.rt.rest h2).1⟩
theorem Z2r{h:Hp}{p:Pts}(hh:h.ok)(r:Rt h p)(hc:h.cycle=true):(Wo h).ok:=by
 have hw:=r.walk;obtain⟨i,hi⟩:=Z8H r.scan0;have hil:i<h.low.length:=by have:=r.cyc hc;omega
 obtain⟨u,hu⟩: ∃u,h.low[i]? =some u:=⟨_,Z8n hil⟩;have hll:=hh.low
 have he: ∀g:Hp,g.ok→(Yy g).ok:=fun g hg=>by
  unfold Yy;split
  ·exact⟨hg.base,hg.cap,hg.to,hg.scan,hg.low,hg.high,by simp,by simp,hg.roots,hg.lowW,hg.highW,by simp,by simp,hg.rootsW⟩
  ·exact hg
 have hf:Fit (h.scan+1):=⟨by omega,by omega⟩;unfold Wo;rw[hi,Z8B,hu,Z91];rw[hi]at hf;have f:=Kk hh (hh.lowW u (Z8x hu));split
 ·refine he _ ?_;obtain⟨f,fu⟩:=f
  exact⟨f.base,f.cap,f.to,hf,by simp;exact f.low,f.high,f.old,f.far,f.roots,fun w hw=>by
   rcases Z9r hw with h1|h1
   ·exact f.lowW w h1
   ·rw[h1];exact fu,f.highW,f.oldW,f.farW,f.rootsW⟩
 ·exact he _ ⟨hh.base,hh.cap,hh.to,hf,hh.low,hh.high,hh.old,hh.far,hh.roots,hh.lowW,hh.highW,hh.oldW,hh.farW,hh.rootsW⟩
theorem WD{h:Hp}{p:Pts}(hh:h.ok)(r:Rt h p): ∀k,(ZG h k).ok
 |0=>hh
 |k+1=>by
  obtain⟨q,s⟩:=r.scans k;have:=WD hh r k;rw[YV];generalize ZG h k=g at*;cases hc:g.cycle with
  |false=>simpa using this
  |true=>simpa using Z2r this s.rt hc
end Vm
end
section
namespace Vm
open Go Go.Proofs
set_option maxRecDepth 100000
set_option maxHeartbeats 1000000
structure Made (b:Bt) (x:Rw):Prop where
 pl:Placed b x
 lay:Z8 (layH b.h)=true
 nine: ∀n∈b.g.nodes,sizN n≤9
 cyc:b.h.cycle=true→ ∀i,i<b.g.nodes.length→(Z9 b i).part=1→(Zz b i).part≠0
 scan:0≤b.h.scan∧b.h.scan≤b.h.low.length∧(if b.h.cycle then b.h.scan<b.h.low.length else b.h.scan=b.h.low.length∧b.h.old= []∧b.h.far= [])
 room:(b.h.low.length:Int)+b.h.high.length+((wtL (obs b 3)+wtL (obs b 4):Nat):Int)≤b.h.cap
 fit:Fit b.h.scan
def ptsB(b:Bt):Pts:=⟨obs b 1,obs b 2,obs b 3,obs b 4⟩
theorem Rf(b:Bt){k:Int}(hk:1≤k∧k≤4):(ptsB b).at k=obs b k:=by
 have h1:k=1∨k=2∨k=3∨k=4:=by omega
 rcases h1 with rfl|rfl|rfl|rfl<;>rfl
section
variable {b:Bt} {x:Rw}
theorem Made.fill(m:Made b x):(ZW x b).ok∧layH (ZW x b)=layH b.h∧(ZW x b).scan=b.h.scan∧(ZW x b).cycle=b.h.cycle:=zV m.pl.ok m.fit
theorem Made.tiles(m:Made b x){k:Int}(hk:1≤k∧k≤4):Tiles (Z5 (ZW x b) k) (decide (2<k)) 0 (obs b k):=Z2d m.pl m.lay m.nine hk
theorem Made.start(m:Made b x){k a:Int}(hk:1≤k∧k≤4)(ha:0≤a∧a<sizL (layH b.h) k):ZE (ZW x b) k a=fstL (layH b.h) k+a:=by
 unfold ZE;rw[m.fill.2.1,U7 m.lay hk ha]
theorem TW(n:Nd):1≤sizN n:=by unfold sizN;omega
theorem Made.ob_here(m:Made b x){i:Nat}(hi:i<b.g.nodes.length)(hp:(Z9 b i).part≠0): ∃o∈obs b (Z9 b i).part,o.at_=(Z9 b i).at_∧o.size=((ndAt b i).ptrs.length:Int)+(ndAt b i).data.length∧o.ptrs=(ndAt b i).ptrs.length∧o.gone=false:=
 ⟨_,T9.2 ⟨i,hi,by unfold obAt;rw[if_pos rfl];exact .head _⟩,rfl,rfl,rfl,rfl⟩
theorem Made.ob_old(m:Made b x){i:Nat}(hi:i<b.g.nodes.length)(hp:(Zz b i).part≠0): ∃o∈obs b (Zz b i).part,o.at_=(Zz b i).at_:=by
 obtain⟨h1,h2,h3,h4⟩:=m.pl.old_in hi hp
 have hne: ¬(Z9 b i).part=(Zz b i).part:=by
  by_cases h0:(Z9 b i).part=0
  ·omega
  ·have:=(m.pl.here_in hi h0).1;omega
 by_cases h0:(Z9 b i).part=0
 ·exact⟨_,T9.2 ⟨i,hi,by unfold obAt;rw[if_neg hne,if_pos rfl,if_pos h0];exact .head _⟩,rfl⟩
 ·exact⟨_,T9.2 ⟨i,hi,by unfold obAt;rw[if_neg hne,if_pos rfl,if_neg h0];exact .head _⟩,rfl⟩
theorem Made.to_here(m:Made b x){i:Nat}(hi:i<b.g.nodes.length):YP (ZW x b) (ptsB b) (refB b.h (Z9 b i)) 1 2=true:=by
 by_cases h0:(Z9 b i).part=0
 ·have:refB b.h (Z9 b i)=0:=by unfold refB;rw[if_pos h0]
  rw[this];simp[YP]
 ·obtain⟨h1,h2,h3⟩:=m.pl.here_in hi h0;have hs:=TW (ndAt b i);obtain⟨o,ho,ha,_⟩:=m.ob_here hi h0;rw[m.pl.ref_here m.lay hi h0];unfold YP;rw[Xi m.lay (by omega)]
  have:(atR (ZW x b) (Z9 b i).part (obs b (Z9 b i).part) (fstL (layH b.h) (Z9 b i).part+(Z9 b i).at_)).isSome=true:=by
   refine T2.2 ⟨o,ho,?_⟩;rw[ha,m.start (by omega) ⟨by omega,by omega⟩]
  rcases h1 with h|h
  ·rw[h]at this;rw[h];simp only[Rf b (show 1≤(1:Int)∧(1:Int)≤4 by omega),this];simp
  ·rw[h]at this;rw[h];simp only[Rf b (show 1≤(2:Int)∧(2:Int)≤4 by omega),this];simp
theorem Made.to_old(m:Made b x){i:Nat}(hi:i<b.g.nodes.length):YP (ZW x b) (ptsB b) (refB b.h (Zz b i)) 3 4=true:=by
 by_cases h0:(Zz b i).part=0
 ·have:refB b.h (Zz b i)=0:=by unfold refB;rw[if_pos h0]
  rw[this];simp[YP]
 ·obtain⟨h1,h2,_,h3⟩:=m.pl.old_in hi h0;have hs:=TW (ndAt b i);obtain⟨o,ho,ha⟩:=m.ob_old hi h0;rw[m.pl.ref_old m.lay hi h0];unfold YP;rw[Xi m.lay (by omega)]
  have:(atR (ZW x b) (Zz b i).part (obs b (Zz b i).part) (fstL (layH b.h) (Zz b i).part+(Zz b i).at_)).isSome=true:=by
   refine T2.2 ⟨o,ho,?_⟩;rw[ha,m.start (by omega) ⟨by omega,by omega⟩]
  rcases h1 with h|h
  ·rw[h]at this;rw[h];simp only[Rf b (show 1≤(3:Int)∧(3:Int)≤4 by omega),this];simp
  ·rw[h]at this;rw[h];simp only[Rf b (show 1≤(4:Int)∧(4:Int)≤4 by omega),this];simp
theorem Made.same_at(m:Made b x){k:Int}(hk:1≤k∧k≤4){o q:Ob}(ho:o∈obs b k)(hq:q∈obs b k)(h:q.at_=o.at_):q=o:=by
 have ht:=m.tiles hk;rcases ht.apart q hq o ho with h1|h1|h1
 ·exact h1
 ·have:=Z4.1 (ht.stands q hq).1.shape;omega
 ·have:=Z4.1 (ht.stands o ho).1.shape;omega
theorem Made.ob_in(m:Made b x){k:Int}(hk:1≤k∧k≤4){o:Ob}(ho:o∈obs b k):0≤o.at_∧o.at_<sizL (layH b.h) k:=by
 have hs:=((m.tiles hk).stands o ho).1;have h1:=Z4.1 hs.shape;have h2:=hs.fits;have h3:=hs.nat;have:sizL (layH b.h) k=(Z5 (ZW x b) k).length:=by rw[←m.fill.2.1,K6 _ hk]
 omega
theorem Made.find(m:Made b x){k:Int}(hk:1≤k∧k≤4){o:Ob}(ho:o∈obs b k):atR (ZW x b) k (obs b k) (fstL (layH b.h) k+o.at_)=some o:=by
 rw[←m.start hk (m.ob_in hk ho)];refine Z2M ho fun q hq e=>m.same_at hk ho hq ?_;rw[m.start hk (m.ob_in hk ho),m.start hk (m.ob_in hk hq)]at e;omega
theorem Qs{k:Int}{i:Nat}{o:Ob}(h:o∈obAt b k i)(hg:o.gone=true): ¬(Z9 b i).part=k∧(Zz b i).part=k∧ ¬(Z9 b i).part=0∧o=⟨(Zz b i).at_,((ndAt b i).ptrs.length:Int)+(ndAt b i).data.length,(ndAt b i).ptrs.length,true,(adr (refB b.h (Z9 b i))).1⟩:=by
 unfold obAt at h;split at h
 ·simp at h;subst h;simp at hg
 rename_i h1;split at h
 ·rename_i h2;split at h
  ·simp at h;subst h;simp at hg
  ·rename_i h3;simp at h;exact⟨h1,h2,h3,h⟩
 ·simp at h
theorem Made.gone(m:Made b x){k:Int}(hk:3≤k∧k≤4):Ry (ZW x b) (obs b 1) (obs b k):=by
 intro o ho hg;obtain⟨i,hi,hoi⟩:=T9.1 ho;obtain⟨h1,h2,h3,rfl⟩:=Qs hoi hg;obtain⟨u1,u2,u3⟩:=m.pl.here_in hi h3;have hn2:=(m.pl.old_in hi (by omega)).2.2.1;have hp1:(Z9 b i).part=1:=by omega
 obtain⟨q,hq,q1,q2,q3,_⟩:=m.ob_here hi h3;rw[hp1]at hq;refine⟨q,?_,q2,q3⟩;simp only;rw[m.pl.ref_here m.lay hi h3,Xi m.lay (by omega),hp1,←q1];exact m.find (by omega) hq
theorem Made.parts(m:Made b x):Y6 (ZW x b)=some (ptsB b):=
 zA (m.tiles (k:=1) (by omega)) (m.tiles (k:=2) (by omega)) (m.tiles (k:=3) (by omega)) (m.tiles (k:=4) (by omega)) (m.gone (by omega)) (m.gone (by omega))
theorem RF(l r:List Ob)(a:Int):tgL (l++r) a=tgL l a+tgL r a:=by simp[tgL]
theorem Z5Z(b:Bt)(k:Int)(j:Nat)(a:Int):tgL (obAt b k j) a=if ¬(Z9 b j).part=k∧(Zz b j).part=k∧ ¬(Z9 b j).part=0∧(adr (refB b.h (Z9 b j))).1=a then 1 else 0:=by
 unfold obAt;by_cases h1:(Z9 b j).part=k
 ·rw[if_pos h1,if_neg (fun h=>h.1 h1)];simp[tgL]
 rw[if_neg h1];by_cases h2:(Zz b j).part=k
 ·rw[if_pos h2];by_cases h3:(Z9 b j).part=0
  ·rw[if_pos h3,if_neg (fun h=>h.2.2.1 h3)];simp[tgL]
  ·rw[if_neg h3];by_cases h4:(adr (refB b.h (Z9 b j))).1=a
   ·rw[if_pos ⟨h1,h2,h3,h4⟩];simp[tgL,h4]
   ·rw[if_neg (fun h=>h4 h.2.2.2)];simp[tgL,h4]
 ·rw[if_neg h2,if_neg (fun h=>h2 h.2.1)];simp[tgL]
theorem Made.once(m:Made b x)(hc:b.h.cycle=true){i:Nat}(hi:i<b.g.nodes.length)(hp:(Z9 b i).part=1):Sh (ptsB b) (fstL (layH b.h) 1+(Z9 b i).at_)=1:=by
 have key: ∀j,j≤b.g.nodes.length→tgL ((List.range j).flatMap (obAt b 3)) (fstL (layH b.h) 1+(Z9 b i).at_)+tgL ((List.range j).flatMap (obAt b 4)) (fstL (layH b.h) 1+(Z9 b i).at_)=if i<j then 1 else 0:=by
  intro j
  induction j with
  |zero=>intro _;simp[tgL]
  |succ j ih=>
   intro hj;have ih:=ih (by omega);have hjl:j<b.g.nodes.length:=by omega
   rw[Zb6,ZaD,ZaD,RF,RF];simp only[ZbM,List.flatMap_nil,Z9t]
   have hone:tgL (obAt b 3 j) (fstL (layH b.h) 1+(Z9 b i).at_)+tgL (obAt b 4 j) (fstL (layH b.h) 1+(Z9 b i).at_)=if j=i then 1 else 0:=by
    rw[Z5Z,Z5Z];by_cases h0:(Z9 b j).part=0
    ·have: ¬j=i:=fun e=>by subst e;omega
     rw[if_neg this,if_neg (fun h=>h.2.2.1 h0),if_neg (fun h=>h.2.2.1 h0)]
    obtain⟨u1,u2,u3⟩:=m.pl.here_in hjl h0;by_cases hj1:(Z9 b j).part=1
    ·have ho:=m.cyc hc j hjl hj1;obtain⟨v1,_⟩:=m.pl.old_in hjl ho;have htg:(adr (refB b.h (Z9 b j))).1=fstL (layH b.h) 1+(Z9 b j).at_:=by rw[m.pl.ref_here m.lay hjl h0,Xi m.lay (by omega),hj1]
     have heq:(fstL (layH b.h) 1+(Z9 b j).at_=fstL (layH b.h) 1+(Z9 b i).at_)↔j=i:=by
      constructor
      ·intro e;obtain⟨w1,w2,w3⟩:=m.pl.here_in hi (by omega);rw[hj1]at u2;rw[hp]at w2;have hs1:=TW (ndAt b i);have hs2:=TW (ndAt b j);have bi:(blk b x 1 i).length=sizN (ndAt b i):=by unfold blk;rw[if_pos hp];exact ZX _ _ _ _
       have bj:(blk b x 1 j).length=sizN (ndAt b j):=by unfold blk;rw[if_pos hj1];exact ZX _ _ _ _
       by_cases hlt:j<i
       ·obtain⟨r,hr⟩:=UI b x 1 (show j+1≤i by omega);rw[Yt]at hr;have:=Z9U List.length hr;simp[bj]at this;omega
       ·by_cases hgt:i<j
        ·obtain⟨r,hr⟩:=UI b x 1 (show i+1≤j by omega);rw[Yt]at hr;have:=Z9U List.length hr;simp[bi]at this;omega
        ·omega
      ·rintro rfl;rfl
     rw[htg];rcases v1 with v|v
     ·rw[if_neg (show ¬(¬(Z9 b j).part=4∧(Zz b j).part=4∧_)from fun h=>by have:=h.2.1;omega)];by_cases hji:j=i
      ·rw[if_pos hji,if_pos ⟨by omega,v,h0,heq.2 hji⟩]
      ·rw[if_neg hji,if_neg (fun h=>hji (heq.1 h.2.2.2))]
     ·rw[if_neg (show ¬(¬(Z9 b j).part=3∧(Zz b j).part=3∧_)from fun h=>by have:=h.2.1;omega)];by_cases hji:j=i
      ·rw[if_pos hji,if_pos ⟨by omega,v,h0,heq.2 hji⟩]
      ·rw[if_neg hji,if_neg (fun h=>hji (heq.1 h.2.2.2))]
    ·have hp2:(Z9 b j).part=2:=by omega
     have hold:(Zz b j).part=0:=by
      by_cases h:(Zz b j).part=0
      ·exact h
      ·exact absurd hp2 (m.pl.old_in hjl h).2.2.1
     have: ¬j=i:=fun e=>by subst e;omega
     rw[if_neg this,if_neg (fun h=>by have:=h.2.1;omega),if_neg (fun h=>by have:=h.2.1;omega)]
   by_cases hji:j=i
   ·subst hji;rw[if_pos rfl]at hone;rw[if_neg (Nat.lt_irrefl _)]at ih;rw[if_pos (Nat.lt_succ_self _)];omega
   ·rw[if_neg hji]at hone;by_cases hij:i<j
    ·rw[if_pos hij]at ih;rw[if_pos (show i<j+1 by omega)];omega
    ·rw[if_neg hij]at ih;rw[if_neg (show ¬i<j+1 by omega)];omega
 have:=key b.g.nodes.length (Z8v _);rw[if_pos hi]at this;exact this
end
end Vm
end
section
namespace Vm
open Go Go.Proofs
set_option maxRecDepth 100000
set_option maxHeartbeats 1000000
section
variable {b:Bt} {x:Rw}
theorem Made.word(m:Made b x){k:Int}(hk:1≤k∧k≤4){i t:Nat}(hi:i<b.g.nodes.length)(ht:t< (blk b x k i).length):(Z5 (ZW x b) k)[(cat b x k i).length+t]? =(blk b x k i)[t]? :=by
 rw[RJ m.pl hk];obtain⟨r,hr⟩:=UI b x k (show i+1≤b.g.nodes.length by omega);rw[hr,Yt,Z92,Z8F (by omega),Zb7,Z8G ht]
theorem RZ{p:Pl}{n:Nd}{tw:Int}{j:Nat}(hj:j<n.ptrs.length): ∃q∈n.ptrs,(Xn b p n tw)[1+j]? =some (VE b ⟨p.part,((p.at_.toNat+1+j:Nat):Int)⟩ q (IntKind.i64.wrap (tw+j))):=by
 refine⟨n.ptrs[j],Z8M hj,?_⟩;unfold Xn;rw[Zbf 1 j,ZbQ,Z8G (by simp[Y8];exact hj)];simp[Y8,hj]
theorem Sb(h:Hp)(p:Pts)(k j:Int):YP h p 0 k j=true:=by simp[YP]
theorem Made.ptr_ok(m:Made b x)(hp: ∀n∈b.g.nodes,∀q∈n.ptrs,-1≤q∧q< (b.g.nodes.length:Int)){i:Nat}(hi:i<b.g.nodes.length){k:Int}{p:Pl}(hk:p.part=k){a:Nat}{tq_ tw:Int}(hto:tq_∈(ndAt b i).ptrs)(hw:((Z5 (ZW x b) k)[a]?).getD 0=VE b ⟨p.part,(a:Int)⟩ tq_ tw):UR (ZW x b) (ptsB b) k a=true:=by
 have hb:=hp (ndAt b i) (by unfold ndAt;rw[Z8n hi];exact Z8M hi) tq_ hto;unfold UR;simp only[hw];unfold VE;rw[hk];by_cases h0:tq_<0
 ·rw[if_pos h0];simp[Sb]
 obtain⟨t,rfl⟩:=Z8H (show 0≤tq_ by omega);have ht:t<b.g.nodes.length:=by omega
 rw[if_neg h0];have g1:=m.to_here (i:=t) ht;have g2:=m.to_old (i:=t) ht;unfold Z9 at g1;unfold Zz at g2;simp only[Z8B];by_cases h2:2<k
 ·rw[if_pos h2,if_pos h2];exact g2
 rw[if_neg h2,if_neg h2];rw[m.fill.2.2.1];by_cases h3:k=1∧b.h.scan≤(a:Int)
 ·rw[if_pos h3];split
  ·rw[g2];simp
  ·rw[g1];simp
 ·rw[if_neg h3,if_neg (fun h=>h3 ⟨h.1,h.2.1⟩)];exact g1
theorem Made.ptrs(m:Made b x)(hp: ∀n∈b.g.nodes,∀q∈n.ptrs,-1≤q∧q< (b.g.nodes.length:Int)){k:Int}(hk:1≤k∧k≤4):Wm (ZW x b) (ptsB b) k=true:=by
 unfold Wm;rw[Rf b hk,Z8A];intro o ho;obtain⟨i,hi,hoi⟩:=T9.1 ho;unfold yk;rw[Z8A];intro j hj;rw[Z9T]at hj;unfold obAt at hoi;split at hoi
 ·rename_i h1;simp at hoi;subst hoi;simp only[Z8B]at hj;obtain⟨_,q2,_⟩:=m.pl.here_in hi (by omega);rw[h1]at q2;have hb:blk b x k i=Xn b (Z9 b i) (ndAt b i) (IntKind.i64.wrap (x.slack+i)):=by unfold blk;rw[if_pos h1]
  obtain⟨q,hq,hs⟩:=RZ (b:=b) (p:=Z9 b i) (tw:=IntKind.i64.wrap (x.slack+i)) hj;have hw:=m.word hk hi (t:=1+j) (by rw[hb,ZX];unfold sizN;omega);rw[hb,hs]at hw;simp only;refine m.ptr_ok hp hi h1 (tw:=IntKind.i64.wrap (IntKind.i64.wrap (x.slack+i)+j)) hq ?_;rw[q2]at hw⊢;simp only[Z8B]at hw⊢;rw[←Z9i]at hw;rw[hw];rfl
 rename_i h1;split at hoi
 ·rename_i h2;obtain⟨_,q2,_⟩:=m.pl.old_in hi (by omega);rw[h2]at q2;split at hoi
  ·rename_i h3;simp at hoi;subst hoi;simp only[Z8B]at hj;have hb:blk b x k i=Xn b (Zz b i) (ndAt b i) 0:=by unfold blk;rw[if_neg h1,if_pos h2,if_pos h3]
   obtain⟨q,hq,hs⟩:=RZ (b:=b) (p:=Zz b i) (tw:=0) hj;have hw:=m.word hk hi (t:=1+j) (by rw[hb,ZX];unfold sizN;omega);rw[hb,hs]at hw;simp only;refine m.ptr_ok hp hi h2 (tw:=IntKind.i64.wrap (0+j)) hq ?_;rw[q2]at hw⊢;simp only[Z8B]at hw⊢;rw[←Z9i]at hw;rw[hw];rfl
  ·rename_i h3;simp at hoi;subst hoi;simp only[Z8B]at hj;have hb:blk b x k i=UC b (Z9 b i) (ndAt b i):=by unfold blk;rw[if_neg h1,if_pos h2,if_neg h3]
   have hw:=m.word hk hi (t:=1+j) (by rw[hb,XH];unfold sizN;omega)
   have hz:(UC b (Z9 b i) (ndAt b i))[1+j]? =some 0:=by
    unfold UC;rw[Zbf 1 j,ZbQ,List.getElem?_replicate,if_pos (by unfold sizN;omega)]
   rw[hb,hz]at hw;unfold UR;simp only;rw[q2,Z8B,show(cat b x k i).length+1+j=(cat b x k i).length+(1+j)by omega,hw];simp[Sb]
 ·simp at hoi
theorem Made.right(m:Made b x)(hp: ∀n∈b.g.nodes,∀q∈n.ptrs,-1≤q∧q< (b.g.nodes.length:Int)):ZD (ZW x b)=true:=by
 have hl:=m.fill.2.1;have hlow:(ZW x b).low.length=b.h.low.length:=by have:=Z9U Ly.low hl;simp only[layH]at this;omega
 have hhigh:(ZW x b).high.length=b.h.high.length:=by have:=Z9U Ly.high hl;simp only[layH]at this;omega
 have hold:(ZW x b).old.length=b.h.old.length:=by have:=Z9U Ly.old hl;simp only[layH]at this;omega
 have hfar:(ZW x b).far.length=b.h.far.length:=by have:=Z9U Ly.far hl;simp only[layH]at this;omega
 have hcap:(ZW x b).cap=b.h.cap:=Z9U Ly.cap hl;refine yw ?_ m.parts ?_
 ·unfold numR;have hs:=m.scan;have hrl:=m.pl.ok.rl;have hro:(ZW x b).roots.length≤5:=by simp only[ZW,Z8P];exact hrl
  rw[hl,m.lay,m.fill.2.2.1,m.fill.2.2.2,hlow,hold,hfar];obtain⟨s1,s2,s3⟩:=hs;cases hc:b.h.cycle
  ·rw[hc]at s3;simp only[Z8U,Z9f]at s3;simp[s1,s2,s3];omega
  ·rw[hc]at s3;simp only[Z9c]at s3;simp[s1,s2,s3];omega
 ·unfold Ue;simp only[Z8u,Z8L];refine⟨⟨⟨⟨⟨⟨?_,?_⟩,m.ptrs hp (by omega)⟩,m.ptrs hp (by omega)⟩,m.ptrs hp (by omega)⟩,m.ptrs hp (by omega)⟩,?_⟩
  ·rw[m.fill.2.2.2];cases hc:b.h.cycle
   ·rfl
   ·simp only[Zbk,Zaf,Z8A];intro o ho;obtain⟨i,hi,hoi⟩:=T9.1 ho
    have h1:(Z9 b i).part=1∧o.at_=(Z9 b i).at_:=by
     unfold obAt at hoi;split at hoi
     ·rename_i h1;simp at hoi;subst hoi;exact⟨h1,rfl⟩
     split at hoi
     ·rename_i h2;have:=(m.pl.old_in hi (by omega)).1;omega
     ·simp at hoi
    have hin:=m.ob_in (k:=1) (by omega) ho;unfold tgOk;rw[m.start (by omega) hin,h1.2,Z8L];exact m.once hc hi h1.1
  ·rw[Z8A];intro w hw;simp only[ZW,Z8S]at hw;obtain⟨r,hr,rfl⟩:=hw;have hrl:=m.pl.ok.rts r hr;by_cases h0:0≤r
   ·rw[if_pos h0];have hlk:=Jj (x:=x) m.pl.ok b.g.nodes.length (Z8v _);rw[S3 hlk];obtain⟨t,rfl⟩:=Z8H h0;exact m.to_here (i:=t) (by omega)
   ·rw[if_neg h0];exact Sb _ _ _ _
  ·rw[hlow,hhigh,hcap];exact m.room
end
end Vm
end
section
namespace Vm
open Go Go.Proofs
set_option maxRecDepth 100000
set_option maxHeartbeats 1000000
theorem RM(l r:List Ob):wtL (l++r)=wtL l+wtL r:=by simp[wtL]
section
variable {x:Rw} {c:Bool}
theorem Z5N{b:Bt}(hpl:Placed b x){i:Nat}(hi:i<b.g.nodes.length):wtL (obAt b 3 i)+wtL (obAt b 4 i)=if(Z9 b i).part=0 then sizN (ndAt b i)else 0:=by
 have hz:((1:Nat)+(((ndAt b i).ptrs.length:Int)+(ndAt b i).data.length).toNat)=sizN (ndAt b i):=by unfold sizN;omega
 rcases hpl.here i hi with ⟨h1,k,hk,hok⟩ | ⟨h1,_⟩
 ·have h0:(Z9 b i).part=0:=by rw[h1]
  rw[if_pos h0];rcases hk with rfl|rfl<;>simp[obAt,h0,hok,wtL,wtO,hz]
 ·have e0: ¬(Z9 b i).part=0:=by omega
  have e3: ¬(Z9 b i).part=3:=by omega
  have e4: ¬(Z9 b i).part=4:=by omega
  have: ∀k:Int,¬(Z9 b i).part=k→wtL (obAt b k i)=0:=fun k hk=>by
   unfold obAt;rw[if_neg hk,if_neg e0];split<;>simp[wtL,wtO]
  rw[if_neg e0,this 3 e3,this 4 e4]
theorem jK(hx:x.ok): ∀j,j≤(mkG x.nodes x.roots).nodes.length→wtL ((List.range j).flatMap (obAt (Zw x c) 3))+wtL ((List.range j).flatMap (obAt (Zw x c) 4))=(stN x c (mkG x.nodes x.roots) j).wt
 |0,_=>rfl
 |j+1,hj=>by
  have ih:=jK hx j (by omega);have h1:=Z5N (Tl (c:=c) hx) (i:=j) (by rw[XZ];omega);rw[Re (by omega)]at h1;have hn:ndAt (Zw x c) j=((mkG x.nodes x.roots).nodes[j]?).getD default:=rfl;rw[hn]at h1;rw[Zb6,ZaD,ZaD,RM,RM,stN];simp only[ZbM,List.flatMap_nil,Z9t];generalize ((mkG x.nodes x.roots).nodes[j]?).getD default=n at*;unfold LP at h1;simp only[ZN];rcases YB x j c with h0|h0| ⟨h0,rfl⟩
  ·simp[h0]at h1⊢;omega
  ·simp[h0]at h1⊢;omega
  ·simp[h0]at h1⊢;omega
theorem Z2b(x:Rw)(c:Bool): ∀n∈(Zw x c).g.nodes,∀q∈n.ptrs,-1≤q∧q< ((Zw x c).g.nodes.length:Int):=by
 rw[XZ];exact Z0j x.nodes x.roots
theorem Z5j(hc:c=false): ∀j,(stN x c (mkG x.nodes x.roots) j).n3=0∧(stN x c (mkG x.nodes x.roots) j).n4=0
 |0=>⟨rfl,rfl⟩
 |j+1=>by
  have:=Z5j hc j;subst hc;simpa[stN,ZN]using this
theorem made(hx:x.ok)(hc:c=true→(Zw x true).h.low.length≠0):Made (Zw x c) x:=by
 obtain⟨k1,k2,k3⟩:=Uv hx c;refine⟨Tl hx,k3,?_,?_,?_,?_,k2⟩
 ·rw[XZ];exact sz9 x
 ·intro hcy i hi h1;have hct:c=true:=hcy;subst hct;rw[XZ]at hi;rw[Re hi]at h1;rw[zl hi];unfold LP at h1;unfold oldF;rcases YB x i true with h0|h0| ⟨h0,_⟩
  ·simp[h0]at h1
  ·simp[h0];cases clsF x i<;>simp
  ·simp[h0]at h1
 ·have hlow:(Zw x c).h.low.length=(stN x c (mkG x.nodes x.roots) (mkG x.nodes x.roots).nodes.length).n1:=by simp[Zw]
  cases c
  ·obtain⟨e3,e4⟩:=Z5j (x:=x) (c:=false) rfl (mkG x.nodes x.roots).nodes.length;rw[hlow];have hs:(Zw x false).h.scan=((stN x false (mkG x.nodes x.roots) (mkG x.nodes x.roots).nodes.length).n1:Int):=by simp[Zw]
   have hcy:(Zw x false).h.cycle=false:=rfl;rw[hs,hcy];simp only[Z8U,Z9f];refine⟨by omega,by omega,trivial,?_,?_⟩<;>simp[Zw,e3,e4]
  ·have h0:=hc rfl;rw[hlow]at h0;rw[hlow]
   have hs:(Zw x true).h.scan=pick x.scan (stN x true (mkG x.nodes x.roots) (mkG x.nodes x.roots).nodes.length).n1:=by
    simp only[Zw];rw[if_pos ⟨trivial,by omega⟩]
   have hcy:(Zw x true).h.cycle=true:=rfl;have hp:=X1 (c:=x.scan) (n:=((stN x true (mkG x.nodes x.roots) (mkG x.nodes x.roots).nodes.length).n1:Int)) (by omega);rw[hs,hcy];simp only[Z9c];omega
 ·have hw:=jK (c:=c) hx (mkG x.nodes x.roots).nodes.length (Z8v _);have hl:(Zw x c).h.low.length=(stN x c (mkG x.nodes x.roots) (mkG x.nodes x.roots).nodes.length).n1:=by simp[Zw]
  have hh:(Zw x c).h.high.length=(stN x c (mkG x.nodes x.roots) (mkG x.nodes x.roots).nodes.length).n2:=by simp[Zw]
  have hcap:(Zw x c).h.cap=max (((stN x c (mkG x.nodes x.roots) (mkG x.nodes x.roots).nodes.length).n1:Int)+(stN x c (mkG x.nodes x.roots) (mkG x.nodes x.roots).nodes.length).n2+(stN x c (mkG x.nodes x.roots) (mkG x.nodes x.roots).nodes.length).wt) (((stN x c (mkG x.nodes x.roots) (mkG x.nodes x.roots).nodes.length).n3:Int)+(stN x c (mkG x.nodes x.roots) (mkG x.nodes x.roots).nodes.length).n4)+pick x.slack 12:=rfl;have hp:=X1 (c:=x.slack) (n:=12) (by omega);unfold obs;rw[XZ,hw,hl,hh,hcap];omega
theorem yL(hx:x.ok): ∃c,Ty x=ZW x (Zw x c)∧Made (Zw x c) x:=by
 unfold Ty;by_cases h:(Zw x true).h.low.length=0
 ·rw[if_pos h];exact⟨false,rfl,made hx (by simp)⟩
 ·rw[if_neg h];exact⟨true,rfl,made hx fun _=>h⟩
theorem KT(hx:x.ok):ZD (Ty x)=true:=by
 obtain⟨c,h,m⟩:=yL hx;rw[h];exact m.right (Z2b x c)
end
end Vm
end
section
namespace Vm
open Go Go.Proofs
set_option maxRecDepth 100000
set_option maxHeartbeats 1000000
def Ji:Prop:= ∀(h:Hp) (p:Pts) (k:Int),h.ok→Rt h p→0≤k→Fit k→VC Try.prog 46 false [hpV h,vi k] (.tup [hpV (ZG h k.toNat),vi 0])
def Jr(h:Hp)(k:Int):Hp×Int:=if k<0∨ZD h=false then(Hp.zero,1)else(ZG h k.toNat,0)
theorem yK(hS:Ji){h:Hp}(hh:h.ok){k:Int}(hk:Fit k):VC Try.prog 29 false [hpV h,vi k] (.tup [hpV (Jr h k).1,vi (Jr h k).2]):=by
 refine Z6 Try.func29 follows (by kernel_rfl) c29 rfl ?_;have k1:=Z34 hh;simp only[hpV]at k1;unfold Jr;simp[p29];by_cases hk0:0≤k
 case neg=>simp[hk0,show k<0 by omega,hpV,Hp.zero]
 have hk1: ¬k<0:=by omega
 simp only[hk0,hk1,Z9c,Zbz];refine Z0 k1 (by simp) ?_;cases hr:ZD h
 ·simp[hpV,Hp.zero]
 obtain⟨p,r⟩:=Xb.1 hr;have k2:=hS h p k hh r (by omega) hk;simp only[hpV]at k2⊢;simp;refine Z0 k2 (by simp) ?_;simp
theorem jT{h:Hp}{p:Pts}(r:Rt h p)(k:Nat):Jr h k=(ZG h k,0):=by
 unfold Jr;rw[if_neg (by rw[r.right];simp),Z8B]
end Vm
end
section
namespace Vm
open Go Go.Proofs Go.RowKit
set_option maxHeartbeats 400000
set_option maxRecDepth 100000
def Sa(w:World)(g o1 o2 m k:Nat)(e:Ending)(w':World):Prop:= ∃p1 l1 c1 p2 l2 c2,e= .returned (.tuple #[.slice p1 l1 c1,.slice p2 l2 c2,.int .i64 0])∧l1=m∧l2=k∧(0<m→p1=some ⟨g,o1,none⟩)∧(0<k→p2=some ⟨g,o2,none⟩)∧Below w.heap.size w w'
theorem SX(w:World)(G:Nat→Prop)(hG: ∀b,G b→b<w.heap.size)(h:Hp)(hh:h.ok)(x:Nat→Value)(hs: ∀j,j<5→Rd w G (.sl ((lsH h j).map vu)) (x j))(hl:Z8 (layH h)=true)
  {j a n m:Nat} (hj:j=0∨j=1) {u:Int} (hu:(lsH h j)[a]? =some u) (hun:unpk u=((n:Int),(m:Int),0)) (hmn:m≤n) (han:a+n< (lsH h j).length) (hw:U64 (refR (layH h) (j+1) a)) {g off cap:Nat} (hx:x j= .slice (some ⟨g,off,none⟩) (lsH h j).length cap) (hcell:w.cell? ⟨g,off+a,none⟩=some (.int .u64 u)) (hg:G g) (hcap:(lsH h j).length≤cap∧cap≤maxLen):
  Calls Try.prog 146 #[hpA h x,.int .u64 (refR (layH h) (j+1) a)] w (Sa w g (off+(a+1)) (off+(a+1+m)) m (n-m)):=by
 have had:=Xi hl (k:=(j:Int)+1) (a:=a) (by omega)
 have hsz:sizL (layH h) ((j:Int)+1)=(lsH h j).length:=by
  rcases hj with rfl|rfl
  ·rfl
  ·rfl
 have hal:a< (lsH h j).length:=by omega
 have hfd:=V8 hl (k:=(j:Int)+1) (a:=a) (by omega) (by omega);have hau:=yA hw;rw[had]at hau;simp only at hau;have hll:=WI hh j
 have huu:U64 u:=by
  rcases hj with rfl|rfl
  ·exact hh.lowW u (Z8x hu)
  ·exact hh.highW u (Z8x hu)
 have HS:=Z8r hs;have HH:=Z8r hh;have hgl:=hG g hg;clear hs hh;generalize hA:fstL (layH h) ((j:Int)+1)+a=A at*;generalize hW:refR (layH h) ((j:Int)+1) a=W at*;unfold hpA;have HC:=Z8r (And.intro hcell (And.intro hgl (And.intro hcap hx)));clear hcell hA hW hu hx hsz;obtain⟨f,hf⟩: ∃f:Nat,a+1=f:=⟨_,rfl⟩;obtain⟨e1,he1⟩: ∃e:Nat,f+m=e:=⟨_,rfl⟩;obtain⟨e2,he2⟩: ∃e:Nat,f+n=e:=⟨_,rfl⟩;have wf:IntKind.i64.wrap ((a:Int)+1)=(f:Int):=by rw[Z1 _ (by omega) (by omega)];omega
 have we1:IntKind.i64.wrap ((f:Int)+(m:Int))=(e1:Int):=by rw[Z1 _ (by omega) (by omega)];omega
 have we2:IntKind.i64.wrap ((f:Int)+(n:Int))=(e2:Int):=by rw[Z1 _ (by omega) (by omega)];omega
 have HF:=Z8r (And.intro hf (And.intro he1 he2));have o1:f≤e1:=by omega
 have o2:e1≤e2:=by omega
 have o3:e2≤cap:=by omega
 have o4:f≤e2:=by omega
 have o5:e1≤cap:=by omega
 clear hf he1 he2;rcases hj with rfl|rfl
 all_goals
  simp at hfd;go_enter Try.func146,Try.ntmps146
  go_wp2_with (first
   | (go_at_call 59;go_loud (refine(ZQ hw _).mono ?_;rintro e w1 ⟨rfl,hb1⟩;rw[had];dsimp only;have p1:=(hb1.block w.heap.size (by simp)).trans (Z8C w _);have x1:=fun j=>Z8s _ _ j _ _ _ p1;have hs1:=hb1.size;simp at hs1;have HB1:=Z8r (((Z8E _ w).alloc (Z8v _) _).trans (hb1.mono (by simp)));clear hb1))
   | (go_at_call 51;go_loud (refine(ZP (h:=h) (x:=x) (G:=G) (fun c hc=>by have:=hG c hc;omega) (fun j hj=>(HS.out j hj).keep (fun b hb=>HB1.out.block b (hG b hb)) (fun _ h=>h))).mono ?_;rintro e w2 ⟨rfl,hb2⟩;unfold lyA;have p2:=(hb2.block w.heap.size (by omega)).trans p1;have x2:=fun j=>Z8s _ _ j _ _ _ p2;have hs2:=hb2.size;have HB2:=Z8r (HB1.out.trans (hb2.mono (by omega)));clear hb2))
   | (go_at_call 60;go_loud (refine(XA HH.out.lay hau _).mono ?_;rintro e w3 ⟨rfl,hb3⟩;rw[hfd];dsimp only;have p3:=fun o=>(Z8t w3 o w.heap.size (by have:=hb3.size;omega)).trans ((hb3.block w.heap.size (by omega)).trans p2);have x3:=fun o j=>Z8s _ _ j _ _ _ (p3 o);have k3:=fun(cs:Array Value) (t:TypeId) (j:Nat)=>Z8s _ _ j _ _ _ (Z8C w3 (.cells cs t));have hs3:=hb3.size;have HB3:=Z8r (HB2.out.trans (hb3.mono (by omega)));have hz3:=HB3.out.size;have c3:=fun o=>(Z9B w3 o ⟨g,off+a,none⟩ (by show g<w3.heap.size;omega)).trans ((HB3.out.cell (p:=⟨g,off+a,none⟩) (by show g<w.heap.size;omega)).trans HC.out.1);have hx:=HC.out.2.2.2;clear hb3 x1 x2 p1 p2))
   | (go_at_call 62;go_loud (refine(X2 huu _).mono ?_;rintro e w4 ⟨rfl,hb4⟩;rw[hun];dsimp only;have hs4:=hb4.size;simp at hs4;have q4:=fun o=>(Z8t w4 o w3.heap.size (by omega)).trans ((hb4.block w3.heap.size (by simp)).trans (Z8C w3 _));have q4c:=fun o j=>Z8s _ _ j _ _ _ (q4 o);have s4:=fun(cs:Array Value) (t:TypeId) (j:Nat)=>Z8s _ _ j _ _ _ (Z8C w4 (.cells cs t));have HB4:=Z8r (HB3.out.trans ((((Z8E _ w3).alloc (Z8v _) _).trans (hb4.mono (by simp))).mono (by omega)));clear hb4 x3 p3 k3 c3 q4)))
  go_region
  all_goals
   go_wp2
   all_goals
    obtain⟨hf,he1,he2⟩:=HF.out;have hm:m=e1-f:=by omega
    have hn:n-m=e2-e1:=by omega
    rw[hn,hm];have hz:cap=f→e1-f=0:=fun _=>by omega
    have hz2:f=e1→e1-f=0:=fun _=>by omega
    refine Z8K (v:= ?_) ?_ rfl ?_;rotate_left 1
    ·simp[results,Try.results146,go_sem];exact rfl
    refine⟨_,_,_,_,_,_,rfl,?_,?_,fun h=> ?_,fun h=> ?_,(HB4.out.alloc (by have:=HB4.out.size;omega) _).drew⟩
    all_goals first
     |omega
     | (exfalso;omega)
     | (congr 2;omega)
     | (congr 2;congr 1;omega)
end Vm
end
section
namespace Vm
open Go Go.Proofs Go.RowKit
set_option maxHeartbeats 4000000
set_option maxRecDepth 100000
def actA(k r s i z p v:Int):Array Value:= #[.int .i64 k,.int .i64 r,.int .i64 s,.int .i64 i,.int .i64 z,.int .i64 p,.int .u64 v]
def Xw(k:Int):TypeId:=if k=1 then 149 else if k=2 then 150 else if k=3 then 151 else if k=4 then 152 else if k=5 then 153 else if k=6 then 154 else 155
def QY(k r s i z p v:Int):Value:=if 1≤k∧k≤7 then .iface (Xw k) (.agg (actA k r s i z p v))else .nilIface
theorem RE(w:World)(k r s i z p v:Int):Calls Try.prog 53 #[.agg (actA k r s i z p v)] w fun e w'=>e= .returned (QY k r s i z p v)∧Below w.heap.size w w':=by
 have hk:k=1∨k=2∨k=3∨k=4∨k=5∨k=6∨k=7∨ ¬(1≤k∧k≤7):=by omega
 unfold actA;rcases hk with rfl|rfl|rfl|rfl|rfl|rfl|rfl|hk
 case inr.inr.inr.inr.inr.inr.inr=>
  have e1:(k==1)=false:=by simp;omega
  have e2:(k==2)=false:=by simp;omega
  have e3:(k==3)=false:=by simp;omega
  have e4:(k==4)=false:=by simp;omega
  have e5:(k==5)=false:=by simp;omega
  have e6:(k==6)=false:=by simp;omega
  have e7:(k==7)=false:=by simp;omega
  have hv:QY k r s i z p v= .nilIface:=by unfold QY;rw[if_neg hk]
  rw[hv];clear hk hv;go_enter Try.func53,Try.ntmps53;go_wp2;exact Z8K (v:= .nilIface) (by simp[results,Try.results53,go_sem]) rfl ⟨rfl,(Z8E _ _).alloc (Z8v _) _⟩
 all_goals
  go_enter Try.func53,Try.ntmps53;go_wp2;exact Z8K (by simp[results,Try.results53,go_sem];rfl) rfl ⟨rfl,(Z8E _ _).alloc (Z8v _) _⟩
theorem qS{P:Program}(w:World)(v:Value)(xt T:TypeId){fs:Array Field}(hT:P.underlying T=some (.struct fs)):(Instr.typeAssert (.iface T v) xt T true).run P w= .ok (.tuple #[v,.bool true]) w:=by
 simp[Instr.typeAssert,Z8X hT]
theorem LJ{P:Program}(w:World)(v z:Value)(xt t T:TypeId){fs:Array Field}(hT:P.underlying T=some (.struct fs))(hz:(zeroValue T).run P w= .ok z w)(hn:t≠T):(Instr.typeAssert (.iface t v) xt T true).run P w= .ok (.tuple #[z,.bool false]) w:=by
 simp[Instr.typeAssert,Z8X hT,hn,hz]
def actZ:Value:= .agg #[.int .i64 0,.int .i64 0,.int .i64 0,.int .i64 0,.int .i64 0,.int .i64 0,.int .u64 0]
theorem U6(w:World)(v:Value)(t T:TypeId)(hT:T∈ [149,150,151,152,153,154,155]):
  (Instr.typeAssert (.iface t v) 94 T true).run Try.prog w= .ok (if t=T then .tuple #[v,.bool true]else .tuple #[actZ,.bool false]) w:=by
 have h:(∃fs,Try.prog.underlying T=some (.struct fs))∧(zeroValue T).run Try.prog w= .ok actZ w:=by
  simp only[Z8V,ZaX,Zcj]at hT;rcases hT with rfl|rfl|rfl|rfl|rfl|rfl|rfl
  all_goals exact⟨⟨_,rfl⟩,rfl⟩
 obtain⟨⟨fs,h1⟩,h2⟩:=h;by_cases e:t=T
 ·subst e;rw[if_pos rfl];exact qS w v _ _ h1
 ·rw[if_neg e];exact LJ w v _ _ _ _ h1 h2 e
theorem KS(w:World)(o0 o1:Obj):((w.alloc o0).alloc o1).heap[w.heap.size+1]? =some o1:=by
 have:=Z8C (w.alloc o0) o1;rwa[Za2]at this
def XQ(k r s:Int):List Int:=if k=1∨k=7 then [r]else if k=3∨k=5 then [s]else [r,s]
theorem KM(w:World)(k r s i z p v:Int)(hk:1≤k∧k≤7):Calls Try.prog 54 #[QY k r s i z p v] w fun e w'=> ∃g,e= .returned (.slice (some ⟨g,0,none⟩) (XQ k r s).length (XQ k r s).length)∧Below w.heap.size w w'∧w.heap.size≤g∧ ∀j u,(XQ k r s)[j]? =some u→w'.cell? ⟨g,j,none⟩=some (.int .i64 u):=by
 have hk:k=1∨k=2∨k=3∨k=4∨k=5∨k=6∨k=7:=by omega
 rcases hk with rfl|rfl|rfl|rfl|rfl|rfl|rfl
 all_goals
  unfold QY;rw[if_pos (by omega)];simp only[Xw];have a0:=fun t w v=>U6 w v t 149 (by simp);have a1:=fun t w v=>U6 w v t 155 (by simp);have a2:=fun t w v=>U6 w v t 151 (by simp);have a3:=fun t w v=>U6 w v t 153 (by simp);have a4:=fun t w v=>U6 w v t 150 (by simp);have a5:=fun t w v=>U6 w v t 152 (by simp);have a6:=fun t w v=>U6 w v t 154 (by simp);unfold actA;unfold actZ at a0 a1 a2 a3 a4 a5 a6;go_enter Try.func54,Try.ntmps54;go_wp2;refine Z8K (by simp[results,Try.results54,go_sem];rfl) rfl ⟨w.heap.size+1,rfl,((Z8E _ _).alloc (Z8v _) _).alloc (by simp) _,by omega,fun j u hu=> ?_⟩;rw[Z8s _ _ _ _ _ _ (KS _ _ _)];simp[XQ]at hu
  first
  | (match j,hu with
     |0,hu=>simp at hu;subst hu;rfl
     |j+1,hu=>simp at hu;done)
  | (match j,hu with
     |0,hu=>simp at hu;subst hu;rfl
     |1,hu=>simp at hu;subst hu;rfl
     |j+2,hu=>simp at hu)
end Vm
end
section
namespace Vm
open Go Go.Proofs Go.RowKit
set_option maxHeartbeats 1000000
set_option maxRecDepth 100000
def setL(h:Hp)(j i:Nat)(v:Int):Hp:=
 if j=0 then {h with low:=h.low.set i v}else if j=1 then {h with high:=h.high.set i v}else if j=2 then {h with old:=h.old.set i v}else if j=3 then {h with far:=h.far.set i v}else {h with roots:=h.roots.set i v}
theorem TX(h:Hp){j k:Nat}(i:Nat)(v:Int)(hj:j<5)(hk:k<5):lsH (setL h j i v) k=if k=j then(lsH h j).set i v else lsH h k:=by
 have h1:j=0∨j=1∨j=2∨j=3∨j=4:=by omega
 have h2:k=0∨k=1∨k=2∨k=3∨k=4:=by omega
 rcases h1 with rfl|rfl|rfl|rfl|rfl<;>rcases h2 with rfl|rfl|rfl|rfl|rfl<;>rfl
theorem Xe(h:Hp)(j i:Nat)(v:Int):(setL h j i v).base=h.base∧(setL h j i v).cap=h.cap∧(setL h j i v).to=h.to∧(setL h j i v).cycle=h.cycle∧(setL h j i v).scan=h.scan:=by
 unfold setL;split
 ·exact⟨rfl,rfl,rfl,rfl,rfl⟩
 split
 ·exact⟨rfl,rfl,rfl,rfl,rfl⟩
 split
 ·exact⟨rfl,rfl,rfl,rfl,rfl⟩
 split<;>exact⟨rfl,rfl,rfl,rfl,rfl⟩
theorem TU(h:Hp)(j i:Nat)(v:Int)(x:Nat→Value):hpA (setL h j i v) x=hpA h x:=by
 obtain⟨e1,e2,e3,e4,e5⟩:=Xe h j i v;unfold hpA;rw[e1,e2,e3,e4,e5]
theorem HOwn.put{B:Nat}{W:World}{h:Hp}{x:Nat→Value}(ho:HOwn B W h x){j i:Nat}(hj:j<5){g cap:Nat}(hx:x j= .slice (some ⟨g,0,none⟩) (lsH h j).length cap)(v:Int):HOwn B (W.setCell ⟨g,i,none⟩ (.int .u64 v)) (setL h j i v) x:=by
 refine⟨fun k hk=> ?_,ho.apart⟩;rw[TX h i v hj hk];by_cases e:k=j
 ·subst e;rw[if_pos rfl,Z9y];have h0:=ho.own k hk;rw[hx]at h0⊢;have h1:=(h0.stored i (.int .u64 v)).1;rw[Vp];exact h1
 ·rw[if_neg e];refine ownsRow_setCell_other (ho.own k hk) (fun hc=> ?_) _;have hg:(x j).ownBlock=some g:=by rw[hx];rfl
  rcases ZaK e with h1|h1
  ·exact ho.apart k j h1 hj g hc hg
  ·exact ho.apart j k h1 hk g hg hc
structure MSt (w W:World) (ta:TypeId) (act:Array Value) (h:Hp) (y:Nat→Value) (nb:Nat):Prop where
 act:W.heap[w.heap.size]? =some (.cells act ta (0,0))
 res:W.heap[w.heap.size+2]? =some (.cells Zf 25 (0,0))
 now:W.heap[nb]? =some (.cells #[.int .u64 h.base,.int .i64 h.cap,.int .i64 h.to,.bool h.cycle,.int .i64 h.scan,y 0,y 1,y 2,y 3,y 4] 25 (0,0))
 own:HOwn (w.heap.size+3) W h y
 far: ∀j,j<5→ ∀c,(y j).ownBlock=some c→c≠nb
 bel:Below w.heap.size w W
 nB:w.heap.size+3≤nb
theorem MSt.below{w W W':World}{ta:TypeId}{act:Array Value}{h:Hp}{y:Nat→Value}{nb:Nat}(s:MSt w W ta act h y nb)(hb:Below W.heap.size W W'):MSt w W' ta act h y nb:=
 ⟨(hb.block _ (Za s.act)).trans s.act,(hb.block _ (Za s.res)).trans s.res,(hb.block _ (Za s.now)).trans s.now,⟨fun j hj=>Ze (s.own.own j hj) fun c hc=>hb.block _ ((s.own.own j hj).lt c hc).2,s.own.apart⟩,s.far,s.bel.trans (hb.mono s.bel.size),s.nB⟩
theorem MSt.drew{w W:World}{ta:TypeId}{act:Array Value}{h:Hp}{y:Nat→Value}{nb:Nat}(s:MSt w W ta act h y nb):MSt w W.drew ta act h y nb:=
 ⟨s.act,s.res,s.now,⟨fun j hj=>Ze (s.own.own j hj) fun c hc=>rfl,s.own.apart⟩,s.far,s.bel.drew,s.nB⟩
theorem MSt.F{w W:World}{ta:TypeId}{act:Array Value}{h:Hp}{y:Nat→Value}{nb:Nat}(s:MSt w W ta act h y nb):(∀j,W.cell? ⟨w.heap.size,j,none⟩=act[j]?)∧(∀j,W.cell? ⟨nb,j,none⟩=(#[.int .u64 h.base,.int .i64 h.cap,.int .i64 h.to,.bool h.cycle,.int .i64 h.scan,y 0,y 1,y 2,y 3,y 4]:Array Value)[j]?):=
 ⟨fun j=>Z8s _ _ _ _ _ _ s.act,fun j=>Z8s _ _ _ _ _ _ s.now⟩
theorem MSt.put{w W:World}{ta:TypeId}{act:Array Value}{h:Hp}{y:Nat→Value}{nb:Nat}(s:MSt w W ta act h y nb){j i:Nat}(hj:j<5){g cap:Nat}(hx:y j= .slice (some ⟨g,0,none⟩) (lsH h j).length cap)(v:Int):MSt w (W.setCell ⟨g,i,none⟩ (.int .u64 v)) ta act (setL h j i v) y nb:=by
 have hg:(y j).ownBlock=some g:=by rw[hx];rfl
 have hgB:=((s.own.own j hj).lt g hg).1;have hk: ∀c,c≠g→(W.setCell ⟨g,i,none⟩ (.int .u64 v)).heap[c]? =W.heap[c]? :=fun c hc=>Z8I _ _ _ _ hc;obtain⟨e1,e2,e3,e4,e5⟩:=Xe h j i v;refine⟨(hk _ (by omega)).trans s.act,(hk _ (by omega)).trans s.res,?_,s.own.put hj hx v,s.far,s.bel.setCell (by show w.heap.size≤g;omega) _,s.nB⟩;rw[hk _ (fun e=>s.far j hj g hg e.symm),e1,e2,e3,e4,e5];exact s.now
theorem Q0(w:World)(h:Hp)(x:Nat→Value){w0:Int}(h0:w0=0):Calls Try.prog 146 #[hpA h x,.int .u64 w0] w fun e w'=>e= .returned (.tuple #[.slice none 0 0,.slice none 0 0,.int .i64 6])∧Below w.heap.size w w':=by
 subst h0;unfold hpA;have e0:adr 0=(0,6):=by decide+kernel
 go_enter Try.func146,Try.ntmps146
 go_wp2_with (first
  | (go_at_call 59;go_loud (refine(ZQ (by unfold U64;omega) _).mono ?_;rintro e w1 ⟨rfl,hb1⟩;rw[e0];dsimp only;have HB1:=Z8r hb1;clear hb1)))
 exact Z8K (v:= .tuple #[.slice none 0 0,.slice none 0 0,.int .i64 6]) (by simp[results,Try.results146,go_sem]) rfl ⟨rfl,((Z8E _ w).alloc (Z8v _) _).trans (HB1.out.mono (by simp))⟩
end Vm
end
section
namespace Vm
open Go Go.Proofs Go.RowKit
set_option maxHeartbeats 4000000
set_option maxRecDepth 100000
structure ObAt (h:Hp) (w:Int) (j a n m:Nat) (u:Int):Prop where
 j01:j=0∨j=1
 eq:w=refR (layH h) (j+1) a
 u64:U64 w
 at_:(lsH h j)[a]? =some u
 un:unpk u=((n:Int),(m:Int),0)
 mn:m≤n
 fits:a+n< (lsH h j).length
theorem Wa(w:World){i:Int}(hi:Fit i){p:Option Addr}{n c:Nat}(hn:n≤1000000):Calls Try.prog 147 #[.int .i64 i,.slice p n c] w fun e w'=>e= .returned (.bool (decide (0≤i∧i<n)))∧Below w.heap.size w w':=by
 by_cases h0:0≤i
 ·have h0':(i≥0)=True:=ZaJ h0;by_cases h1:i<n
  ·have h1':(i< (n:Int))=True:=ZaJ h1;go_enter Try.func147,Try.ntmps147;go_wp2;exact Z8K (v:= .bool true) (by simp[results,Try.results147,go_sem]) rfl ⟨by simp[h0,h1],Z8E _ _⟩
  ·have h1':(i< (n:Int))=False:=Zan h1;go_enter Try.func147,Try.ntmps147;go_wp2;exact Z8K (v:= .bool false) (by simp[results,Try.results147,go_sem]) rfl ⟨by simp[h1],Z8E _ _⟩
 ·have h0':(i≥0)=False:=Zan h0;go_enter Try.func147,Try.ntmps147;go_wp2;exact Z8K (v:= .bool false) (by simp[results,Try.results147,go_sem]) rfl ⟨by simp[h0],Z8E _ _⟩
theorem Z2B{w w5 W6:World}{T:TypeId}{act cs:Array Value}{h:Hp}{y:Nat→Value}(hb:Below (((w.alloc (.cells act T)).alloc (.cells cs 25)).alloc (.cells Zf 25)).heap.size (((w.alloc (.cells act T)).alloc (.cells cs 25)).alloc (.cells Zf 25)) w5)
  (ho:HOwn (((w.alloc (.cells act T)).alloc (.cells cs 25)).alloc (.cells Zf 25)).heap.size w5 h y) (hW:w5.alloc (.cells #[.int .u64 h.base,.int .i64 h.cap,.int .i64 h.to,.bool h.cycle,.int .i64 h.scan,y 0,y 1,y 2,y 3,y 4] 25)=W6):MSt w W6 T act h y w5.heap.size:=by
 have hz:(((w.alloc (.cells act T)).alloc (.cells cs 25)).alloc (.cells Zf 25)).heap.size=w.heap.size+3:=by simp
 have h0:(((w.alloc (.cells act T)).alloc (.cells cs 25)).alloc (.cells Zf 25)).heap[w.heap.size]? =some (.cells act T (0,0)):=by
  rw[Z8t _ _ _ (by simp;omega),Z8t _ _ _ (by simp)];exact Z8C _ _
 have h2:(((w.alloc (.cells act T)).alloc (.cells cs 25)).alloc (.cells Zf 25)).heap[w.heap.size+2]? =some (.cells Zf 25 (0,0)):=by
  have:=Z8C ((w.alloc (.cells act T)).alloc (.cells cs 25)) (.cells Zf 25);simpa using this
 have hb3:Below w.heap.size w (((w.alloc (.cells act T)).alloc (.cells cs 25)).alloc (.cells Zf 25)):=(((Z8E _ _).alloc (Z8v _) _).alloc (by simp) _).alloc (by simp;omega) _;generalize ((w.alloc (.cells act T)).alloc (.cells cs 25)).alloc (.cells Zf 25)=w3 at*;have hs:=hb.size;subst hW;rw[hz]at ho;refine⟨(Z8t _ _ _ (by omega)).trans ((hb.block _ (by omega)).trans h0),(Z8t _ _ _ (by omega)).trans ((hb.block _ (by omega)).trans h2),Z8C _ _,⟨fun j hj=>Ze (ho.own j hj) fun c hc=>Z8t _ _ _ ((ho.own j hj).lt c hc).2,ho.apart⟩,fun j hj c hc=> ?_,(hb3.trans (hb.mono (by omega))).alloc (by omega) _,by omega⟩;have:=((ho.own j hj).lt c hc).2;omega
theorem Sv{w:World}{B g cap n:Nat}{e:TypeId}{z:Nat}{xs:List Value}(h:w.ownsRow B e z (.slice (some ⟨g,0,none⟩) n cap) n xs)(hn:0<n){i:Nat}:w.frozen? ⟨g,i,none⟩=false:=by
 rcases h.2 with ⟨h0,_⟩ | ⟨g',cap',cur,hc,_,hg,_⟩
 ·cases h0
 ·cases hc;exact Zk hg
theorem MSt.R{w W:World}{ta:TypeId}{act:Array Value}{h:Hp}{y:Nat→Value}{nb:Nat}(s:MSt w W ta act h y nb):(∀j,W.cell? ⟨w.heap.size+1+1,j,none⟩=(#[.int .u64 0,.int .i64 0,.int .i64 0,.bool false,.int .i64 0,.slice none 0 0,.slice none 0 0,.slice none 0 0,.slice none 0 0,.slice none 0 0]:Array Value)[j]?)∧ ∀j,W.frozen? ⟨w.heap.size+1+1,j,none⟩=false:=
 ⟨fun j=>Z8s _ _ _ _ _ _ s.res,fun j=>Zk s.res⟩
theorem Lr{w W:World}{ta:TypeId}{act:Array Value}{g:Hp}{y:Nat→Value}{nb:Nat}(s:MSt w W ta act g y nb)(v0 v1 v2 v3 v4 v5 v6 v7 v8 v9:Value):X5 w (g,0) (.returned (.tuple #[hpA g y,.int .i64 0])) ((((((((((W.setCell ⟨w.heap.size+1+1,0,none⟩ v0).setCell ⟨w.heap.size+1+1,1,none⟩ v1).setCell ⟨w.heap.size+1+1,2,none⟩ v2).setCell ⟨w.heap.size+1+1,3,none⟩ v3).setCell ⟨w.heap.size+1+1,4,none⟩ v4).setCell ⟨w.heap.size+1+1,5,none⟩ v5).setCell ⟨w.heap.size+1+1,6,none⟩ v6).setCell ⟨w.heap.size+1+1,7,none⟩ v7).setCell ⟨w.heap.size+1+1,8,none⟩ v8).setCell ⟨w.heap.size+1+1,9,none⟩ v9):=by
 refine⟨y,rfl,Zh s.bel (by omega) _ _ _ _ _ _ _ _ _ _,fun j hj=> ?_⟩;refine Vc (k:= .u64) (Ze (s.own.own j hj) fun c hc=>Zt (by have:=((s.own.own j hj).lt c hc).1;omega) _ _ _ _ _ _ _ _ _ _) fun c h1 h2=>⟨by omega,h2⟩
theorem Ut{w W:World}(hb:Below w.heap.size w W)(e:Int)(v0 v1 v2 v3 v4 v5 v6 v7 v8 v9:Value):X5 w (Hp.zero,e) (.returned (.tuple #[.agg Zf,.int .i64 e])) ((((((((((W.setCell ⟨w.heap.size+1+1,0,none⟩ v0).setCell ⟨w.heap.size+1+1,1,none⟩ v1).setCell ⟨w.heap.size+1+1,2,none⟩ v2).setCell ⟨w.heap.size+1+1,3,none⟩ v3).setCell ⟨w.heap.size+1+1,4,none⟩ v4).setCell ⟨w.heap.size+1+1,5,none⟩ v5).setCell ⟨w.heap.size+1+1,6,none⟩ v6).setCell ⟨w.heap.size+1+1,7,none⟩ v7).setCell ⟨w.heap.size+1+1,8,none⟩ v8).setCell ⟨w.heap.size+1+1,9,none⟩ v9):=
 ⟨fun _=> .slice none 0 0,rfl,Zh hb (by omega) _ _ _ _ _ _ _ _ _ _,UU _ _⟩
theorem KD{w W:World}{T:TypeId}{act:Array Value}{h:Hp}{y:Nat→Value}{nb:Nat}(st:MSt w W T act h y nb)(hh:h.ok)(hl:Z8 (layH h)=true){w0 u:Int}{j a n m:Nat}(O:ObAt h w0 j a n m u):
  Calls Try.prog 146 #[hpA h y,.int .u64 w0] W fun e w'=> ∃g gc,y j= .slice (some ⟨g,0,none⟩) (lsH h j).length gc∧Sa W g (a+1) (a+1+m) m (n-m) e w':=by
 have hj:j<5:=by rcases O.j01 with rfl|rfl<;>omega
 have hop:=st.own.own j hj;obtain⟨aj,qj,ej⟩:=Z3 hop;obtain⟨g,hg⟩:=XU hop ej (by have:=O.fits;omega);subst hg;have hopj:=hop;rw[ej]at hopj;have hgl:=hop.lt g (by rw[ej];rfl);have hc:=Yh hopj O.at_;have hcap:=Z0q hopj (by have:=O.fits;omega);rw[O.eq];refine(SX W (fun c=>w.heap.size+3≤c∧c<W.heap.size) (fun c hc=>hc.2) h hh y (fun i hi=>Vc (k:= .u64) (st.own.own i hi) fun c h1 h2=>⟨h1,h2⟩) hl O.j01 O.at_ O.un O.mn O.fits (by rw[←O.eq];exact O.u64) (off:=0) ej (by rw[Z97];exact hc) hgl hcap).mono ?_;rintro e w' hp;rw[Z97,Z97]at hp;exact⟨g,qj,ej,hp⟩
theorem jV(w:World)(G:Nat→Prop)(hG: ∀b,G b→b<w.heap.size)(h:Hp)(hh:h.ok)(src:Nat→Value)(hs: ∀j,j<5→Rd w G (.sl ((lsH h j).map vu)) (src j))(hl:Z8 (layH h)=true){k rr z pp v i w0:Int}{s:Nat}(hr:h.roots[s]? =some w0)(hv:U64 v)(hi:Fit i)
  {res:Hp×Int} (hO:(w0=0∧res=(Hp.zero,6))∨ ∃j a n m u,ObAt h w0 j a n m u∧((0≤i∧i< (n-m:Nat)∧res=(setL h j (a+1+m+i.toNat) v,0))∨(¬(0≤i∧i< (n-m:Nat))∧res=(Hp.zero,1)))):
  Calls Try.prog 151 #[.agg (actA k rr s i z pp v),hpA h src] w (X5 w res):=by
 rcases hO with ⟨h0,hre⟩ | ⟨j,a,n,m,u,O,hres⟩
 case' inl=>have H0:=Z8r h0
 case' inl=>have HRE:=Z8r hre
 case' inl=>clear h0 hre
 case' inr=>have HO:=Z8r O
 case' inr=>have HRES:=Z8r hres
 case' inr=>clear O hres
 all_goals
  have HS:=Z8r hs;have HH:=Z8r hh;have HR:=Z8r hr;clear hs hh hr;unfold hpA actA;go_enter Try.func151,Try.ntmps151
  go_wp2_with (first
   | (go_at_call 48;go_loud (refine(WK _ G (fun b hb=>by have:=hG b hb;simp;omega) h HH.out src (fun j hj=>(HS.out j hj).keep (fun b hb=>by have:=hG b hb;rw[Z8t _ _ _ (by simp;omega),Z8t _ _ _ (by simp;omega),Z8t _ _ _ (by omega)]) (fun _ h=>h))).mono ?_;rintro e w5 ⟨y,rfl,hb5,ho5⟩;obtain⟨a0,q0,e0⟩:=Z3 (ho5.own 0 (by omega));obtain⟨a1,q1,e1⟩:=Z3 (ho5.own 1 (by omega));obtain⟨a2,q2,e2⟩:=Z3 (ho5.own 2 (by omega));obtain⟨a3,q3,e3⟩:=Z3 (ho5.own 3 (by omega));obtain⟨a4,q4,e4⟩:=Z3 (ho5.own 4 (by omega));have HB5:=Z8r (And.intro hb5 ho5);clear hb5 ho5;unfold hpA;rw[e0,e1,e2,e3,e4])))
  obtain⟨W6,hW6⟩: ∃W6,w5.alloc (.cells #[.int .u64 h.base,.int .i64 h.cap,.int .i64 h.to,.bool h.cycle,.int .i64 h.scan,.slice a0 (lsH h 0).length q0,.slice a1 (lsH h 1).length q1,.slice a2 (lsH h 2).length q2,.slice a3 (lsH h 3).length q3,.slice a4 (lsH h 4).length q4] 25)=W6:=⟨_,rfl⟩;have st6:MSt w W6 153 #[.int .i64 k,.int .i64 rr,.int .i64 s,.int .i64 i,.int .i64 z,.int .i64 pp,.int .u64 v] h y w5.heap.size:=Z2B HB5.out.1 HB5.out.2 (by rw[e0,e1,e2,e3,e4];exact hW6);have hsl:s< (lsH h 4).length:=(Z8o.1 HR.out).1;obtain⟨g4,hg4⟩:=XU (st6.own.own 4 (by omega)) e4 (by omega);subst hg4;have E:=Z8r (And.intro e0 (And.intro e1 (And.intro e2 (And.intro e3 e4))))
  have SOf: ∀u,MSt w u 153 #[.int .i64 k,.int .i64 rr,.int .i64 s,.int .i64 i,.int .i64 z,.int .i64 pp,.int .u64 v] h y w5.heap.size→
    (fun w'=>(∀j,w'.cell? ⟨w.heap.size,j,none⟩=(#[.int .i64 k,.int .i64 rr,.int .i64 s,.int .i64 i,.int .i64 z,.int .i64 pp,.int .u64 v]:Array Value)[j]?)∧(∀j,w'.cell? ⟨w5.heap.size,j,none⟩=(#[.int .u64 h.base,.int .i64 h.cap,.int .i64 h.to,.bool h.cycle,.int .i64 h.scan,.slice a0 (lsH h 0).length q0,.slice a1 (lsH h 1).length q1,.slice a2 (lsH h 2).length q2,.slice a3 (lsH h 3).length q3,.slice (some ⟨g4,0,none⟩) (lsH h 4).length q4]:Array Value)[j]?)∧
     w'.cell? ⟨g4,s,none⟩=some (.int .u64 w0)∧MSt w w' 153 #[.int .i64 k,.int .i64 rr,.int .i64 s,.int .i64 i,.int .i64 z,.int .i64 pp,.int .u64 v] h y w5.heap.size) u:=fun u st=>by
   obtain⟨f1,f2⟩:=st.F;obtain⟨e0,e1,e2,e3,e4⟩:=E.out;rw[e0,e1,e2,e3,e4]at f2;have h4:=st.own.own 4 (by omega);rw[e4]at h4;exact⟨f1,f2,Yh h4 HR.out,st⟩
  have HSO:=Z8r SOf;have S10:=SOf W6.drew st6.drew;rw[hW6];clear st6 SOf e0 e1 e2 e3 e4 hW6
  go_region_held3 (fun w'=>(∀j,w'.cell? ⟨w.heap.size,j,none⟩=(#[.int .i64 k,.int .i64 rr,.int .i64 s,.int .i64 i,.int .i64 z,.int .i64 pp,.int .u64 v]:Array Value)[j]?)∧(∀j,w'.cell? ⟨w5.heap.size,j,none⟩=(#[.int .u64 h.base,.int .i64 h.cap,.int .i64 h.to,.bool h.cycle,.int .i64 h.scan,.slice a0 (lsH h 0).length q0,.slice a1 (lsH h 1).length q1,.slice a2 (lsH h 2).length q2,.slice a3 (lsH h 3).length q3,.slice (some ⟨g4,0,none⟩) (lsH h 4).length q4]:Array Value)[j]?)∧
     w'.cell? ⟨g4,s,none⟩=some (.int .u64 w0)∧MSt w w' 153 #[.int .i64 k,.int .i64 rr,.int .i64 s,.int .i64 i,.int .i64 z,.int .i64 pp,.int .u64 v] h y w5.heap.size) (first|exact S10|assumption)
   (first
    | (go_at_call 146;have hsc:=Q0 (w0:=w0) W6.drew h y H0.out;unfold hpA at hsc;rw[E.out.1,E.out.2.1,E.out.2.2.1,E.out.2.2.2.1,E.out.2.2.2.2]at hsc;refine hsc.mono ?_;rintro e w11 ⟨rfl,hb11⟩;have S11:=HSO.out _ (S10.2.2.2.below hb11))
    | (go_at_call 146;have hsc:=KD S10.2.2.2 HH.out hl HO.out;unfold hpA at hsc;rw[E.out.1,E.out.2.1,E.out.2.2.1,E.out.2.2.2.1,E.out.2.2.2.2]at hsc;refine hsc.mono ?_;rintro e w11 ⟨g,gc,hgx,p1,l1,c1,p2,l2,c2,rfl,hl1,hl2,hp1,hp2,hb11⟩;have S11:=HSO.out _ (S10.2.2.2.below hb11)))
 ·obtain⟨f1,f2,f3,st11⟩:=S11;have ST11:=Z8r st11;have HGX:=Z8r (And.intro hgx (And.intro hp1 (And.intro hp2 (And.intro hl1 hl2))));clear S10 st11 hgx hp1 hp2 hb11 f3;rename_i hHeld;clear hHeld;have hnm:n-m≤1000000:=by have:=WI HH.out j;have:=HO.out.fits;omega
  rcases HRES.out with ⟨hi0,hi1,hre⟩ | ⟨hno,hre⟩
  ·have HW:=fun W=>Wa W hi (p:=p2) (n:=n-m) (c:=c2) hnm;rw[ZaU (And.intro hi0 hi1)]at HW;have HWI:=Z8r HW;obtain⟨i',rfl⟩:=Z8H hi0;have hp2':p2=some ⟨g,a+1+m,none⟩:=HGX.out.2.2.1 (by omega);subst hp2';clear HW;obtain⟨idx,hidx⟩: ∃idx,a+1+m+i'=idx:=⟨_,rfl⟩;have hil:idx< (lsH h j).length:=by have:=HO.out.fits;have:=HO.out.mn;omega
   have hj5:j<5:=by rcases HO.out.j01 with rfl|rfl<;>omega
   rw[show a+1+m+Int.toNat (i':Int)=idx by omega]at hre;have HRE:=Z8r hre;have HIX:=Z8r hidx;clear hre
   go_wp2_with (first
    | (go_at_call 147;go_loud (refine(HWI.out _).mono ?_;rintro e w12 ⟨rfl,hb12⟩;have st12:=ST11.out.below hb12;obtain⟨k1,k2⟩:=st12.F;have hop:=st12.own.own j hj5;rw[HGX.out.1]at hop;have hcl:=Yh hop (Z8n hil);have hfr:=Sv hop (i:=idx) (by omega);have st13:=st12.put hj5 (i:=idx) HGX.out.1 v;obtain⟨k3,k4⟩:=st13.F;obtain⟨r3,r4⟩:=st13.R;obtain⟨s1,s2,s3,s4,s5⟩:=Xe h j idx v;rw[s1,s2,s3,s4,s5,E.out.1,E.out.2.1,E.out.2.2.1,E.out.2.2.2.1,E.out.2.2.2.2]at k4;have ST13:=Z8r st13;clear st12 st13 hb12 hop s1 s2 s3 s4 s5 k2)))
   rw[HRE.out];have e13:=TU h j idx v y;have z13:=Zj ST13.out.res (.int .u64 h.base) (.int .i64 h.cap) (.int .i64 h.to) (.bool h.cycle) (.int .i64 h.scan) (.slice a0 (lsH h 0).length q0) (.slice a1 (lsH h 1).length q1) (.slice a2 (lsH h 2).length q2) (.slice a3 (lsH h 3).length q3) (.slice (some ⟨g4,0,none⟩) (lsH h 4).length q4);refine Z8K (v:= .tuple #[hpA (setL h j idx v) y,.int .i64 0]) ?_ rfl ?_
   ·rw[e13];unfold hpA;rw[E.out.1,E.out.2.1,E.out.2.2.1,E.out.2.2.2.1,E.out.2.2.2.2];simp[results,Try.results151,go_sem,z13,HIX.out]
   ·exact Lr ST13.out _ _ _ _ _ _ _ _ _ _
  ·have HW:=fun W=>Wa W hi (p:=p2) (n:=n-m) (c:=c2) hnm;rw[Zc9 hno]at HW;have HWI:=Z8r HW;have HRE:=Z8r hre;clear HW hre hno
   go_wp2_with (first
    | (go_at_call 147;go_loud (refine(HWI.out _).mono ?_;rintro e w12 ⟨rfl,hb12⟩;have st12:=ST11.out.below hb12;obtain⟨k1,k2⟩:=st12.F;obtain⟨r3,r4⟩:=st12.R;have ST12:=Z8r st12;clear st12 hb12)))
   rw[HRE.out];have z13:=Zj ST12.out.res (.int .u64 0) (.int .i64 0) (.int .i64 0) (.bool false) (.int .i64 0) (.slice none 0 0) (.slice none 0 0) (.slice none 0 0) (.slice none 0 0) (.slice none 0 0);refine Z8K (v:= .tuple #[.agg Zf,.int .i64 1]) ?_ rfl ?_
   ·simp[results,Try.results151,go_sem,z13,Zf]
   ·exact Ut ST12.out.bel 1 _ _ _ _ _ _ _ _ _ _
 ·obtain⟨f1,f2,f3,st11⟩:=S11;obtain⟨r3,r4⟩:=st11.R;have ST11:=Z8r st11;clear S10 st11 hb11 f3;rename_i hHeld;clear hHeld;go_wp2;rw[HRE.out];have z13:=Zj ST11.out.res (.int .u64 0) (.int .i64 0) (.int .i64 0) (.bool false) (.int .i64 0) (.slice none 0 0) (.slice none 0 0) (.slice none 0 0) (.slice none 0 0) (.slice none 0 0);refine Z8K (v:= .tuple #[.agg Zf,.int .i64 6]) ?_ rfl ?_
  ·simp[results,Try.results151,go_sem,z13,Zf]
  ·exact Ut ST11.out.bel 6 _ _ _ _ _ _ _ _ _ _
end Vm
end
section
namespace Vm
open Go
open Go.Proofs
set_option maxRecDepth 100000
def p30:Fn:=⟨26,[0,1,3,2,4,6,5,7,9,8,10,12,11,13,15,14,16,18,17,19,21,20,22,24,23,25],
pQ [pR [pV 0 pF],.reg ⟨[],[([],.ag [pU 10,pI 5,pI 0,pF,pI 0,pN,pN,pN,pN,.lit [pU 0]])],[(1,.m [pU 10,pI 5,pI 0,pF,pI 0,pN,pN,pN,pN,.lit [pU 0]])]⟩,pC [pK 26 34 [.mm 1 0 10,.ag [pI 1,pI 0,pI 0,pI 0,.fld (.ag [pI 2,pI 1]) 0,.fld (.ag [pI 2,pI 1]) 1,pU 0]]] [(2,pM (.sz (.ext (.s 26) 1) 10) 10),pV 3 (.fl (.ext (.s 26) 0)),pV 4 (.fl (.ext (.s 26) 2))],pC [pK 27 34 [.mm 2 0 10,.ag [pI 5,pI 0,pI 0,pI 0,pI 0,pI 0,pU 9]]] [(5,pM (.sz (.ext (.s 27) 1) 10) 10),pV 6 (.ext (.s 27) 0),pV 7 (.ext (.s 27) 2)],pC [pK 28 34 [.mm 5 0 10,.ag [pI 3,pI 0,pI 0,pI 0,pI 0,pI 0,pU 0]]] [(8,pM (.sz (.ext (.s 28) 1) 10) 10),pV 9 (.ext (.s 28) 0),pV 10 (.ext (.s 28) 2)],pC [pK 29 34 [.mm 2 0 10,.ag [pI 1,pI 0,pI 0,pI 0,.fld (.ag [pI 2,pI 0]) 0,.fld (.ag [pI 2,pI 0]) 1,pU 0]]] [(11,pM (.sz (.ext (.s 29) 1) 10) 10),pV 12 (.ext (.s 29) 0),pV 13 (.ext (.s 29) 2)],pC [pK 30 34 [.mm 1 0 10,.ag [pI 3,pI 0,pI 0,pI 0,pI 0,pI 0,pU 0]]] [(14,pM (.sz (.ext (.s 30) 1) 10) 10),pV 15 (.ext (.s 30) 0),pV 16 (.ext (.s 30) 2)],pC [pK 31 34 [.mm 1 0 10,.ag [pI 0,pI 0,pI 0,pI 0,pI 0,pI 0,pU 0]]] [(17,pM (.sz (.ext (.s 31) 1) 10) 10),pV 18 (.ext (.s 31) 0),pV 19 (.ext (.s 31) 2)],pC [pK 32 32 [.mm 1 0 10,.ag [pI 4,pI 0]]] [(20,pM (.sz (.ext (.s 32) 1) 10) 10),pV 21 (.ext (.s 32) 0),pV 22 (.ext (.s 32) 2)],pC [pK 33 32 [.mm 1 0 10,.ag [pI 5,pI 0]]] [(23,pM (.sz (.ext (.s 33) 1) 10) 10),pV 24 (.ext (.s 33) 0),pV 25 (.ext (.s 33) 2)],.reg ⟨[.lt 34 [] (.bin .eql (.s 4) (pI 0)),.call 35 [(34,true)] (.id 19) false false [.mm 2 0 10,.ag [pU 10,pI 5,pI 0,pF,pI 0,pN,.lit [pU 131076,pU 0,pU 0],pN,pN,.lit [pU 25]]],.lt 36 [] (.ite (.s 34) (.s 35) pF),.lt 37 [] (.ite (.s 36) (.bin .eql (.s 7) (pI 0)) pF),.lt 38 [] (.ite (.s 37) (.bin .eql (.s 10) (pI 0)) pF),.lt 39 [] (.ite (.s 38) (.bin .eql (.s 9) (pU 9)) pF),.lt 40 [] (.ite (.s 39) (.bin .eql (.s 13) (pI 7)) pF),.lt 41 [] (.ite (.s 40) (.bin .eql (.s 16) (pI 6)) pF),.lt 42 [] (.ite (.s 41) (.bin .eql (.s 19) (pI 1)) pF),.lt 43 [] (.ite (.s 42) (.bin .eql (.s 22) (pI 0)) pF),.lt 44 [] (.ite (.s 43) (.bin .eql (.s 21) (pU 21)) pF)],[([(36,true)],.bin .eql (.s 7) (pI 0)),([(37,true)],.bin .eql (.s 10) (pI 0)),([(38,true)],.bin .eql (.s 9) (pU 9)),([(39,true)],.bin .eql (.s 13) (pI 7)),([(40,true)],.bin .eql (.s 16) (pI 6)),([(41,true)],.bin .eql (.s 19) (pI 1)),([(42,true)],.bin .eql (.s 22) (pI 0)),([(43,true)],.bin .eql (.s 21) (pU 21)),([(44,true)],.bin .eql (.s 25) (pI 7))],[pV 0 (.ite (.s 44) (.bin .eql (.s 25) (pI 7)) pF)]⟩] .ret,[(0,.v)]⟩
theorem c30:Zc Try.prog fresh sig [] [] Try.f30=some p30:=by kernel_rfl
def p31:Fn:=⟨4,[0,1,4,6],
pQ [pR [pV 2 (pI 0)],pQ [pR [pV 3 (.bin .lss (.s 0) (pI 0))]] (.cond (.s 3) (pR [pV 0 (.un .neg (.bin .add (.s 0) (pI 1)))]) .skip),pR [pV 2 (.bin .rem (.s 0) (.s 1))]] .ret,[(2,.v)]⟩
theorem c31:Zc Try.prog fresh sig [.fz,.fz] [] Try.f31=some p31:=by kernel_rfl
def p47:Fn:=⟨5,[0,1,2,3,6],
pQ [pR [(1,pS 0 2),pV 2 (pU 0),pV 3 (pI 0)],pQ [pC [pK 5 81 [.mm 1 0 2]] [pV 4 (.un .not (.s 5))]] (.cond (.s 4) (pQ [pR [pV 2 (pU 0),pV 3 (pI 1)]] .ret) .skip),pR [pV 2 (.bin .add (.bin .shl (.conv .u64 (.m 1 0)) (pU 1)) (.bin .shl (.conv .u64 (.m 1 1)) (pU 17))),pV 3 (pI 0)]] .ret,[(2,.v),(3,.v)]⟩
theorem c47:Zc Try.prog fresh sig [.fz] [] Try.f47=some p47:=by kernel_rfl
def p49:Fn:=⟨4,[0,1,2,4],
pQ [pR [(2,pS 0 10),pV 3 pF],pC [pK 4 26 [.mm 2 0 10]] [pV 3 (.bin .leq (.bin .add (.bin .add (.bin .add (.len (.m 2 5)) (.len (.m 2 6))) (.s 4)) (.s 1)) (.m 2 1))]] .ret,[(3,.v)]⟩
theorem c49:Zc Try.prog fresh sig [.fz,.fz] [] Try.f49=some p49:=by kernel_rfl
def p146:Fn:=⟨15,[0,1,2,4,5,6,7,18,8,28,9,34,10,47,11],
pQ [pR [(2,pS 0 10),pV 3 pN,pV 4 pN,pV 5 (pI 0)],pC [pK 15 59 [.s 1]] [pV 5 (.ext (.s 15) 1),pV 6 (.ext (.s 15) 0)],pQ [pR [pV 7 (.bin .neq (.s 5) (pI 0))]] (.cond (.s 7) (pQ [pR []] .ret) .skip),pC [pK 16 51 [.mm 2 0 10],pK 17 60 [.s 16,.s 6]] [pV 5 (.ext (.s 17) 1),(8,pM (.sz (.ext (.s 17) 0) 2) 2)],pQ [pR [pV 9 (.bin .neq (.s 5) (pI 0))]] (.cond (.s 9) (pQ [pR []] .ret) .skip),pR [pV 10 (.m 2 5)],pQ [pR [pV 11 (.bin .eql (.m 8 0) (pI 2))]] (.cond (.s 11) (pR [pV 10 (.m 2 6)]) .skip),pC [pK 18 62 [.fld (.idx (.s 10) (.m 8 1) 1) 0]] [pV 5 (.ext (.s 18) 1),(12,pM (.sz (.ext (.s 18) 0) 2) 2)],pQ [pR [pV 13 (.bin .neq (.s 5) (pI 0))]] (.cond (.s 13) (pQ [pR []] .ret) .skip),pR [pV 14 (.bin .add (.m 8 1) (pI 1))],pR [pV 3 (.slc (.s 10) (.s 14) (.bin .add (.s 14) (.m 12 1)) 1),pV 4 (.slc (.s 10) (.bin .add (.s 14) (.m 12 1)) (.bin .add (.s 14) (.m 12 0)) 1),pV 5 (pI 0)]] .ret,[(3,.v),(4,.v),(5,.v)]⟩
theorem c146:Zc Try.prog fresh sig [.fz,.fz] [] Try.f146=some p146:=by kernel_rfl
def p147:Fn:=⟨3,[0,1,4],
pQ [pR [pV 2 pF],.reg ⟨[.lt 3 [] (.bin .geq (.s 0) (pI 0))],[([(3,true)],.bin .lss (.s 0) (.len (.s 1)))],[pV 2 (.ite (.s 3) (.bin .lss (.s 0) (.len (.s 1))) pF)]⟩] .ret,[(2,.v)]⟩
theorem c147:Zc Try.prog fresh sig [.fz,.fz] [] Try.f147=some p147:=by kernel_rfl
def p148:Fn:=⟨11,[0,1,2,3,4,5,6,7,8,23,31],
pQ [pR [(2,pS 0 7),(3,pS 1 10),(4,pZ),pV 5 (pI 0)],pC [pK 11 146 [.mm 3 0 10,.fld (.idx (.m 3 9) (.m 2 2) 1) 0]] [pV 6 (.ext (.s 11) 0),pV 7 (.ext (.s 11) 1),pV 8 (.ext (.s 11) 2)],pQ [pR [pV 9 (.bin .neq (.s 8) (pI 0))]] (.cond (.s 9) (pQ [.reg ⟨[],[([],pY)],[(4,pZ),pV 5 (.s 8)]⟩] .ret) .skip),pQ [pC [pK 12 147 [.m 2 3,.s 7]] [pV 10 (.un .not (.s 12))]] (.cond (.s 10) (pQ [.reg ⟨[],[([],pY)],[(4,pZ),pV 5 (pI 1)]⟩] .ret) .skip),pC [pK 13 48 [.mm 3 0 10]] [(4,pS 13 10),pV 5 (pI 0)]] .ret,[(4,(.ag 10)),(5,.v)]⟩
theorem c148:Zc Try.prog fresh sig [.fz,.fz] [] Try.f148=some p148:=by kernel_rfl
def p149:Fn:=⟨9,[0,1,2,3,4,5,6,7,22],
pQ [pR [(2,pS 0 7),(3,pS 1 10),pV 4 (pU 0)],pC [pK 9 146 [.mm 3 0 10,.fld (.idx (.m 3 9) (.m 2 2) 1) 0]] [pV 5 (.ext (.s 9) 0),pV 6 (.ext (.s 9) 1),pV 7 (.ext (.s 9) 2)],pQ [pR [pV 8 (.bin .neq (.s 7) (pI 0))]] (.cond (.s 8) (pQ [pR [pV 4 (pU 0)]] .ret) .skip),pR [pV 4 (.fld (.idx (.s 6) (.m 2 3) 1) 0)]] .ret,[(4,.v)]⟩
theorem c149:Zc Try.prog fresh sig [.fz,.fz] [] Try.f149=some p149:=by kernel_rfl
end Vm
end
section
namespace Vm
open Go Go.Proofs
set_option maxRecDepth 100000
set_option maxHeartbeats 1000000
theorem KW{s p:Int}:VC Try.prog 47 false [shV s p] (.tup [vu (Xd s p).1,vi (Xd s p).2]):=by
 refine Z6 Try.func47 follows (by kernel_rfl) c47 rfl ?_;simp[p47];refine Z0 R4 (by simp) ?_;cases h:Zo s p
 ·simp[Xd,h]
 ·obtain⟨h1,h2,h3,h4⟩:=Z4.1 h;have e1:=Zi s (by omega) (by omega);have e2:=Zi p (by omega) (by omega);have s1:(2:Int) ^ min 1 IntKind.u64.bits=2:=by decide
  have s2:(2:Int) ^ min 17 IntKind.u64.bits=131072:=by decide
  have e3:=Zi (p*131072) (by omega) (by omega);have e4:=Zi (s*2) (by omega) (by omega);have e5:=Zi (s*2+p*131072) (by omega) (by omega);have e6:s*2+p*131072=2*(s+65536*p):=by omega
  have e7:=Zi (2*(s+65536*p)) (by omega) (by omega);simp[Xd,h,binV,e1,e2,s1,s2,e3,e4,e5,e6,e7]
def X9(h:Hp)(p:Pts)(n:Int):Bool:=decide ((h.low.length:Int)+h.high.length+Yi p+n≤h.cap)
theorem Rt.capL{h:Hp}{p:Pts}(r:Rt h p):h.cap≤4096:=by
 exact(Zm.1 r.lay).2.1
theorem Z2W{h:Hp}(hh:h.ok){p:Pts}(r:Rt h p){n:Int}(hn:0≤n∧n≤1000):VC Try.prog 49 false [hpV h,vi n] (.bool (X9 h p n)):=by
 refine Z6 Try.func49 follows (by kernel_rfl) c49 rfl ?_;have k1:=Z36 hh;rw[r.wait]at k1;have hb:=r.room;have hc:=r.capL;simp only[hpV]at k1⊢;simp[p49];refine Z0 k1 (by simp) ?_;have e1:=Z1 ((h.low.length:Int)+h.high.length) (by omega) (by omega);have e2:=Z1 ((h.low.length:Int)+h.high.length+(Yi p:Nat)) (by omega) (by omega);have e3:=Z1 ((h.low.length:Int)+h.high.length+(Yi p:Nat)+n) (by omega) (by omega);simp[e1,e2,e3,X9]
theorem KU{i:Int}{l:List Int}:VC Try.prog 147 false [vi i,.sl (l.map vu)] (.bool (decide (0≤i∧i<l.length))):=by
 refine Z6 Try.func147 follows (by kernel_rfl) c147 rfl ?_;by_cases h1:0≤i<;>by_cases h2:i<l.length<;>simp[p147,h1,h2]
theorem SQ{c n:Int}(hc:Fit c)(hn:0<n):VC Try.prog 31 false [vi c,vi n] (vi (pick c n)):=by
 refine Z6 Try.func31 follows (by kernel_rfl) c31 rfl ?_;obtain⟨h1,h2⟩:=hc;by_cases h:c<0
 ·simp[p31,h];simp(disch:=omega) only[Z1];refine⟨by omega,?_⟩;unfold pick;rw[if_pos h,Z9e (by omega)]
 ·simp[p31,h];refine⟨by omega,?_⟩;unfold pick;rw[if_neg h,Z9e (by omega)]
def Z5S(h:Hp)(j a m:Nat):List Int:=((lsH h j).take (a+1+m)).drop (a+1)
def KK(h:Hp)(j a n m:Nat):List Int:=((lsH h j).take (a+1+n)).drop (a+1+m)
theorem zW{h:Hp}(hh:h.ok)(hl:Z8 (layH h)=true){w0 u:Int}{j a n m:Nat}(O:ObAt h w0 j a n m u):
  VC Try.prog 146 false [hpV h,vu w0] (.tup [.sl ((Z5S h j a m).map vu),.sl ((KK h j a n m).map vu),vi 0]):=by
 refine Z6 Try.func146 follows (by kernel_rfl) c146 rfl ?_;have hL:=O.fits
 have hsz:sizL (layH h) ((j:Int)+1)=(lsH h j).length:=by
  rcases O.j01 with rfl|rfl<;>rfl
 have had:=Xi hl (k:=(j:Int)+1) (a:=a) (by omega);have hfd:=V8 hl (k:=(j:Int)+1) (a:=a) (by have:=O.j01;omega) (by omega);have k1:=Rr O.u64;have hu0:=yA O.u64;rw[O.eq,had]at k1 hu0;have k3:=ye hh.lay hu0;rw[hfd]at k3
 have huu:U64 u:=by
  rcases O.j01 with rfl|rfl
  ·exact hh.lowW u (Z8x O.at_)
  ·exact hh.highW u (Z8x O.at_)
 have k4:=KL huu;rw[O.un]at k4;have k2:=SK (h:=h);have hll:=WI hh j;have hmn:=O.mn;have w1:IntKind.i64.wrap ((a:Int)+1)=((a+1:Nat):Int):=Z1 _ (by omega) (by omega);have w2:IntKind.i64.wrap (((a+1:Nat):Int)+m)=((a+1+m:Nat):Int):=Z1 _ (by omega) (by omega);have w3:IntKind.i64.wrap (((a+1:Nat):Int)+n)=((a+1+n:Nat):Int):=Z1 _ (by omega) (by omega);generalize hf:a+1=f at w1 w2 w3⊢;generalize hf1:f+m=f1 at w2⊢;generalize hf2:f+n=f2 at w3⊢;rw[O.eq];simp only[hpV]at k2⊢;simp[p146];refine Z0 k1 (by simp) ?_;simp;refine Z0 k2 (by simp) ?_;simp;refine Z0 k3 (by simp) ?_;have hat:=O.at_;unfold Z5S KK;rcases O.j01 with rfl|rfl
 all_goals
  simp[lsH]at hat hL⊢;have hg:=ZM hat;simp[hat];refine Z0 k4 (by simp) ?_;simp[w1,w2,w3];subst hf hf1 hf2;exact⟨by omega,by omega,rfl,rfl⟩
theorem Z0U{h:Hp}:VC Try.prog 146 false [hpV h,vu 0] (.tup [.sl [],.sl [],vi 6]):=by
 refine Z6 Try.func146 follows (by kernel_rfl) c146 rfl ?_;have k1:=Rr (w:=0) (by unfold U64;omega);rw[show adr 0=(0,6)by decide+kernel]at k1;simp[p146,hpV];refine Z0 k1 (by simp) ?_;simp
theorem Z1M{h:Hp}(hh:h.ok):VC Try.prog 48 false [hpV h] (hpV h):=by
 refine⟨by kernel_rfl,fun w G vs hG hsz hvs=> ?_⟩;have r0:=hvs 0 _ rfl
 have he:vs= #[vs.getD 0 undef]:=by
  have hs3:vs.size=1:=hsz;apply Zbh
  ·simp[hs3]
  ·intro i h1 h2;have hi:i<1:=by omega
   match i,hi with
   |0,_=>simp[Array.getD,hs3]
 obtain⟨src,e0,hs⟩:=Jt r0;rw[he,e0];refine(WK w G hG h hh src hs).mono ?_;rintro e w' ⟨x,rfl,hb,ho⟩;exact⟨_,rfl,hb,Qr fun j hj=>Vc (k:= .u64) (ho.own j hj) fun c h1 h2=> .inr ⟨h1,h2⟩⟩
def actV(k r s i z p v:Int):V:= .agg [vi k,vi r,vi s,vi i,vi z,vi p,vu v]
theorem Z1U{h:Hp}(hh:h.ok)(hl:Z8 (layH h)=true){k r i z p v w0:Int}{s:Nat}(hr:h.roots[s]? =some w0)
  {res:Hp×Int} (hO:(w0=0∧res=(Hp.zero,6))∨ ∃j a n m u,ObAt h w0 j a n m u∧((0≤i∧i< (n-m:Nat)∧res=(h,0))∨(¬(0≤i∧i< (n-m:Nat))∧res=(Hp.zero,1)))):
  VC Try.prog 148 false [actV k r s i z p v,hpV h] (.tup [hpV res.1,vi res.2]):=by
 refine Z6 Try.func148 follows (by kernel_rfl) c148 rfl ?_;have hlt:=(Z8o.1 hr).1;have hrr:=hh.roots;simp[p148,hpV,actV,hr];rcases hO with ⟨rfl,rfl⟩ | ⟨j,a,n,m,u,O,hres⟩
 ·have k1:=Z0U (h:=h);simp only[hpV]at k1;refine Z0 k1 (by simp) ?_;simp[Hp.zero]
 ·have k1:=zW hh hl O;simp only[hpV]at k1;refine Z0 k1 (by simp) ?_;simp;have hlen:(KK h j a n m).length=n-m:=by have:=O.fits;have:=O.mn;simp[KK];omega
  have k2:=KU (i:=i) (l:=KK h j a n m);rw[hlen]at k2;refine Z0 k2 (by simp) ?_;rcases hres with ⟨h1,h2,rfl⟩ | ⟨h1,rfl⟩
  ·rw[ZaU (And.intro h1 h2)];have k3:=Z1M hh;simp only[hpV]at k3;simp;refine Z0 k3 (by simp) ?_;simp
  ·rw[Zc9 h1];simp[Hp.zero]
theorem Z3s{h:Hp}(hh:h.ok)(hl:Z8 (layH h)=true){k r z p v w0 u y:Int}{s i j a n m:Nat}(hr:h.roots[s]? =some w0)(O:ObAt h w0 j a n m u)(hy:(lsH h j)[a+1+m+i]? =some y)(hi:i<n-m):
  VC Try.prog 149 false [actV k r s i z p v,hpV h] (vu y):=by
 refine Z6 Try.func149 follows (by kernel_rfl) c149 rfl ?_;have hlt:=(Z8o.1 hr).1;simp[p149,hpV,actV,hr];have k1:=zW hh hl O;simp only[hpV]at k1;refine Z0 k1 (by simp) ?_
 have hb:(KK h j a n m)[i]? =some y:=by
  unfold KK;rw[Z8N,Z8T,if_pos (by omega)];exact hy
 have hbl:=(Z8o.1 hb).1;simp[hb]
end Vm
end
section
namespace Vm
open Go Go.Proofs Go.RowKit Go.Shelf
attribute [local go_sem] Oper.semAt_some
set_option maxHeartbeats 1000000
set_option maxRecDepth 100000
theorem yS{n:Nat}{P:Program}{c:Code}{Q:Exit→Act→World→Prop}{a:Act}{w:World}(h:c.wpIn Fence.wide n P (Exit.noGoto Q) a w):(Code.scope c).wpIn Fence.wide n P Q a w:=
 wpIn_wide.2 (wp_scope_straight (wpIn_wide.1 h))
theorem Z3x{W W':World}{B:Nat→Prop}{b r:Nat}{l:List Int}{y:Value}(h:Rd W (fun c=>B c∧c<W.heap.size∧c≠b) (.sl (l.map vu)) y)(hg:W.grownBy W' (some r))(hr: ¬B r):
  Rd W' (fun c=>B c∧c<W'.heap.size∧c≠b) (.sl (l.map vu)) y:=
 (h.keep (fun c hc=>hg.block c hc.2.1 fun e=>hr (by cases e;exact hc.1)) fun c hc=>hc).mono fun c hc=>⟨hc.1,Z8z hc.2.1 hg.size,hc.2.2⟩
theorem NowI.kept{B:Nat→Prop}{W W':World}{b r:Nat}{g:Hp}{x:Nat→Value}(S:NowI B W b g x)(hg:W.grownBy W' (some r))(hr: ¬B r):NowI B W' b g x:=
 ⟨S.le,(hg.block b (Za S.nb) fun e=>by cases e;exact hr S.le).trans S.nb,fun j hj=>Z3x (S.rd j hj) hg hr⟩
def ze10:Array Value:= #[.int .u64 0,.int .i64 0,.int .i64 0,.bool false,.int .i64 0,.slice none 0 0,.slice none 0 0,.slice none 0 0,.slice none 0 0,.slice none 0 0]
structure ScI (B:Nat→Prop) (w:World) (b:Nat) (h:Hp) (k done:Nat) (W:World):Prop where
 now: ∃x,NowI B W b (ZG h done) x
 le:done≤k
 kb:W.heap[w.heap.size+1]? =some (.cells #[.int .i64 ((k:Int) - (done:Nat))] 3 (0,0))
 r0:W.heap[w.heap.size+2]? =some (.cells ze10 25 (0,0))
 r1:W.heap[w.heap.size+3]? =some (.cells #[.int .i64 0] 36 (0,0))
 fn:W.heap[b+1]? =some (.cells #[.func (.func 79) #[] #[.pointer (some ⟨b,0,none⟩)]] 133 (0,0))
 gr:w.grownBy W none
theorem ScI.abide{B:Nat→Prop}{w:World}{b:Nat}{h:Hp}{k done:Nat}{W W':World}{row:Option Nat}(S:ScI B w b h k done W)(hg:W.grownBy W' row)(hr: ∀r,row=some r→w.heap.size≤r∧ ∃o:Obj,W.heap[r]? =some o∧o.isCells=false):ScI B w b h k done W':=by
 obtain⟨x,hx⟩:=S.now
 have q: ∀(c:Nat) (o:Obj),W.heap[c]? =some o→o.isCells=true→W'.heap[c]? =some o:=fun c o h1 h2=>(hg.block c (Za h1) fun e=>by
  obtain⟨_,o',h3,h4⟩:=hr c e.symm;rw[h1]at h3;cases h3;rw[h2]at h4;cases h4).trans h1
 exact⟨⟨x,hx.abide hg fun r e=>(hr r e).2⟩,S.le,q _ _ S.kb rfl,q _ _ S.r0 rfl,q _ _ S.r1 rfl,q _ _ S.fn rfl,Yo S.gr hg fun r e=> .inr (hr r e).1⟩
theorem Ll(W:World)(b:Nat):Calls Try.prog 80 #[.pointer (some ⟨b,0,none⟩)] W fun e w'=>e= .returned (.func (.func 104) #[] #[.pointer (some ⟨W.heap.size,0,none⟩)])∧w'=W.alloc (.cells #[.pointer (some ⟨b,0,none⟩)] 137):=by
 have hmf: ∀(fn:Go.Fn) (first cap:Array Value) (w:World),(Instr.makeFunc fn first cap).run Try.prog w= .ok (.func fn first cap) w:=fun _ _ _ _=>rfl;go_enter Try.func80,Try.ntmps80;go_wp2;exact Z8K (v:= .func (.func 104) #[] #[.pointer (some ⟨W.heap.size,0,none⟩)]) (by simp[results,Try.results80,go_sem]) rfl ⟨rfl,rfl⟩
theorem qP(w:World)(o0 o1 o2 o3:Obj): ∃W,(((w.alloc o0).alloc o1).alloc o2).alloc o3=W∧W.heap.size=w.heap.size+4∧w.grownBy W none∧W.heap[w.heap.size+1]? =some o1∧W.heap[w.heap.size+2]? =some o2∧W.heap[w.heap.size+3]? =some o3:=by
 refine⟨_,rfl,by simp,⟨rfl,rfl,rfl,by simp;omega,fun k hk _=> ?_⟩,?_,?_,?_⟩
 ·rw[Z8t _ _ _ (by simp;omega),Z8t _ _ _ (by simp;omega),Z8t _ _ _ (by simp;omega),Z8t _ _ _ hk]
 ·rw[Z8t _ _ _ (by simp),Z8t _ _ _ (by simp)];have:=Z9C (w.alloc o0) o1;rwa[Za2]at this
 ·rw[Z8t _ _ _ (by simp)];have:=Z9C ((w.alloc o0).alloc o1) o2;simpa using this
 ·have:=Z9C (((w.alloc o0).alloc o1).alloc o2) o3;simpa using this
theorem yR{w w0 w1:World}{G:Nat→Prop}(hG: ∀b,G b→b<w.heap.size){h:Hp}(hh:h.ok){p:Pts}(r:Rt h p){k:Nat}{x1:Nat→Value}(hz0:w0.heap.size=w.heap.size+4)(hg0:w.grownBy w0 none)
  (k1:w0.heap[w.heap.size+1]? =some (.cells #[.int .i64 k] 3 (0,0))) (k2:w0.heap[w.heap.size+2]? =some (.cells ze10 25 (0,0))) (k3:w0.heap[w.heap.size+3]? =some (.cells #[.int .i64 0] 36 (0,0)))
  (hb:Below w0.heap.size w0 w1) (hx: ∀j,j<5→Rd w1 (fun c=>G c∨(w0.heap.size≤c∧c<w1.heap.size)) (.sl ((lsH h j).map vu)) (x1 j)):
  ∃w3,((w1.alloc (.cells (hpC h x1) 25)).alloc (.cells #[.func (.func 79) #[] #[.pointer (some ⟨w1.heap.size,0,none⟩)]] 133)).alloc (.cells #[.pointer (some ⟨w1.heap.size,0,none⟩)] 137)=w3∧
   w3.heap.size=w1.heap.size+3∧w0.heap.size≤w1.heap.size∧ScI (fun c=>G c∨w.heap.size+4≤c) w w1.heap.size h k 0 w3∧KnI (fun c=>G c∨w.heap.size+4≤c) w1.heap.size (w1.heap.size+2) p w3:=by
 refine⟨_,rfl,by simp,hb.size,?_⟩
 have hkp: ∀c,c<w1.heap.size→(((w1.alloc (.cells (hpC h x1) 25)).alloc (.cells #[.func (.func 79) #[] #[.pointer (some ⟨w1.heap.size,0,none⟩)]] 133)).alloc (.cells #[.pointer (some ⟨w1.heap.size,0,none⟩)] 137)).heap[c]? =w1.heap[c]? :=fun c hc=>by
  rw[Z8t _ _ _ (by simp;omega),Z8t _ _ _ (by simp;omega),Z8t _ _ _ hc]
 have hsz:(((w1.alloc (.cells (hpC h x1) 25)).alloc (.cells #[.func (.func 79) #[] #[.pointer (some ⟨w1.heap.size,0,none⟩)]] 133)).alloc (.cells #[.pointer (some ⟨w1.heap.size,0,none⟩)] 137)).heap.size=w1.heap.size+3:=by simp
 have h0:(((w1.alloc (.cells (hpC h x1) 25)).alloc (.cells #[.func (.func 79) #[] #[.pointer (some ⟨w1.heap.size,0,none⟩)]] 133)).alloc (.cells #[.pointer (some ⟨w1.heap.size,0,none⟩)] 137)).heap[w1.heap.size]? =some (.cells (hpC h x1) 25 (0,0)):=by
  rw[Z8t _ _ _ (by simp;omega),Z8t _ _ _ (by simp)];exact Z9C _ _
 have h1:(((w1.alloc (.cells (hpC h x1) 25)).alloc (.cells #[.func (.func 79) #[] #[.pointer (some ⟨w1.heap.size,0,none⟩)]] 133)).alloc (.cells #[.pointer (some ⟨w1.heap.size,0,none⟩)] 137)).heap[w1.heap.size+1]? =some (.cells #[.func (.func 79) #[] #[.pointer (some ⟨w1.heap.size,0,none⟩)]] 133 (0,0)):=by
  rw[Z8t _ _ _ (by simp)];have:=Z9C (w1.alloc (.cells (hpC h x1) 25)) (.cells #[.func (.func 79) #[] #[.pointer (some ⟨w1.heap.size,0,none⟩)]] 133);rwa[Za2]at this
 have h2:(((w1.alloc (.cells (hpC h x1) 25)).alloc (.cells #[.func (.func 79) #[] #[.pointer (some ⟨w1.heap.size,0,none⟩)]] 133)).alloc (.cells #[.pointer (some ⟨w1.heap.size,0,none⟩)] 137)).heap[w1.heap.size+2]? =some (.cells #[.pointer (some ⟨w1.heap.size,0,none⟩)] 137 (0,0)):=by
  have:=Z9C ((w1.alloc (.cells (hpC h x1) 25)).alloc (.cells #[.func (.func 79) #[] #[.pointer (some ⟨w1.heap.size,0,none⟩)]] 133)) (.cells #[.pointer (some ⟨w1.heap.size,0,none⟩)] 137);simpa using this
 have hs1:=hb.size;have hgr:w1.grownBy (((w1.alloc (.cells (hpC h x1) 25)).alloc (.cells #[.func (.func 79) #[] #[.pointer (some ⟨w1.heap.size,0,none⟩)]] 133)).alloc (.cells #[.pointer (some ⟨w1.heap.size,0,none⟩)] 137)) none:=⟨rfl,rfl,rfl,by omega,fun c hc _=>hkp c hc⟩;generalize ((w1.alloc (.cells (hpC h x1) 25)).alloc (.cells #[.func (.func 79) #[] #[.pointer (some ⟨w1.heap.size,0,none⟩)]] 133)).alloc (.cells #[.pointer (some ⟨w1.heap.size,0,none⟩)] 137)=w3 at*
 have hnow:NowI (fun c=>G c∨w.heap.size+4≤c) w3 w1.heap.size h x1:=by
  refine⟨.inr (by omega),h0,fun j hj=>((hx j hj).keep (fun c hc=>hkp c ?_) fun c hc=>hc).mono fun c hc=> ?_⟩
  ·rcases hc with hc|hc
   ·have:=hG c hc;omega
   ·exact hc.2
  ·rcases hc with hc|hc
   ·have:=hG c hc;exact⟨.inl hc,by omega,by omega⟩
   ·exact⟨.inr (by omega),by omega,by omega⟩
 have q: ∀c o,w0.heap[c]? =some o→w3.heap[c]? =some o:=fun c o hc=>by
  have hl:=Za hc;rw[hkp c (by omega),hb.block c hl];exact hc
 exact⟨⟨⟨x1,hnow⟩,Z9n _,by rw[q _ _ k1];simp,q _ _ k2,q _ _ k3,h1,Ya hg0 (Ya (YJ hb none) hgr)⟩,h2,h,x1,hnow,hh,r⟩
theorem ScI.step{B:Nat→Prop}{w:World}{b:Nat}{h:Hp}{p q:Pts}{k done:Nat}{W W':World}(hh:h.ok)(r:Rt h p)(S:ScI B w b h k done W)(hr:Rt (ZG h done) q)(hc:(ZG h done).cycle=true)(hB: ¬B (w.heap.size+1))(hb:w.heap.size+4≤b)(hk:done<k)(hg:W.grownBy W' (some b))(hn: ∃x,NowI B W' b (Wo (ZG h done)) x):
  ScI B w b h k (done+1) (W'.setCell ⟨w.heap.size+1,0,none⟩ (.int .i64 ((k:Int) - (done:Nat) -1)))∧KpN B b (w.heap.size+1) W (W'.setCell ⟨w.heap.size+1,0,none⟩ (.int .i64 ((k:Int) - (done:Nat) -1)))∧
   W.grownBy W' (some b)∧W'.grownBy (W'.setCell ⟨w.heap.size+1,0,none⟩ (.int .i64 ((k:Int) - (done:Nat) -1))) (some (w.heap.size+1)):=by
 have hs:=ZaG W' (w.heap.size+1) (.int .i64 ((k:Int) - (done:Nat) -1));obtain⟨x,hx⟩:=hn;have hx2:=hx.kept hs hB;have e1:ZG h (done+1)=Wo (ZG h done):=by rw[YV,hc];simp
 have ho: ∀(c:Nat) (o:Obj),W.heap[c]? =some o→c≠b→c≠w.heap.size+1→(W'.setCell ⟨w.heap.size+1,0,none⟩ (.int .i64 ((k:Int) - (done:Nat) -1))).heap[c]? =some o:=fun c o h1 h2 h3=>
  (Z8I _ _ _ _ h3).trans ((hg.block c (Za h1) (fun e=>h2 (by cases e;rfl))).trans h1)
 have hkb:W'.heap[w.heap.size+1]? =some (.cells #[.int .i64 ((k:Int) - (done:Nat))] 3 (0,0)):=(hg.block _ (Za S.kb) (fun e=>by cases e;omega)).trans S.kb;refine⟨⟨⟨x,by rw[e1];exact hx2⟩,by omega,?_,ho _ _ S.r0 (by omega) (by omega),ho _ _ S.r1 (by omega) (by omega),ho _ _ S.fn (by omega) (by omega),?_⟩,⟨Z8Y hg.size hs.size,fun c o h1 _ h3 h4=>ho c o h1 h3 h4,fun p' hp'=> ?_⟩,hg,hs⟩
 ·have:(k:Int) - ((done+1:Nat):Int)=(k:Int) - (done:Nat) -1:=by omega
  rw[this];simp[World.setCell,Z8R,hkb]
 ·exact Yo (Yo S.gr hg fun r e=> .inr (by cases e;omega)) hs fun r e=> .inr (by cases e;omega)
 ·obtain⟨y,hy⟩:=S.now;have hin:InBox B b q W:=⟨_,y,hy,WD hh r done,hr⟩;obtain⟨g',q',f⟩:=hr.scan hc;obtain⟨rr,hrr⟩:=f.obsL;refine⟨q',rr,⟨_,x,hx2,?_,?_⟩,?_⟩
  ·have:=WD hh r (done+1);rwa[e1]at this
  ·rw[f.eq];exact f.rt
  ·rw[hrr,hin.low hp']
def jC(w:World)(G:Nat→Prop)(g:Hp)(e:Ending)(w':World):Prop:= ∃x,e= .returned (.tuple #[hpA g x,.int .i64 0])∧Below w.heap.size w w'∧ ∀j,j<5→Rd w' (fun c=>G c∨(w.heap.size≤c∧c<w'.heap.size)) (.sl ((lsH g j).map vu)) (x j)
theorem Z28{B G:Nat→Prop}{w:World}{b:Nat}{h g:Hp}{k done:Nat}{W W8:World}{y:Nat→Value}{D:Nat}(S:ScI B w b h k done W)(hgd:ZG h done=g)(hfin:done=k∨(ZG h done).cycle=false)(hn:NowI B W b g y)(hB:B=fun c=>G c∨w.heap.size+4≤c)(hG: ∀c,G c→c<w.heap.size)
  (hD:w.heap.size+4≤D) (hD2:W.heap[D]? =some (.deferred (some []))) (h8b:Below w.heap.size W W8) (h8s:W8.heap.size=W.heap.size) (h8o: ∀c,c≠w.heap.size+1+1→W8.heap[c]? =W.heap[c]?) (h8:W8.heap[w.heap.size+1+1]? =some (.cells (hpC g y) 25 (0,0))):
  (W8.setCell ⟨w.heap.size+1+1+1,0,none⟩ (.int .i64 0)).heap[D]? =some (.deferred (some []))∧(∀j,((W8.setCell ⟨w.heap.size+1+1+1,0,none⟩ (.int .i64 0)).putObj D (.deferred none)).cell? ⟨w.heap.size+1+1,j,none⟩=(hpC g y)[j]?)∧((W8.setCell ⟨w.heap.size+1+1+1,0,none⟩ (.int .i64 0)).putObj D (.deferred none)).cell? ⟨w.heap.size+1+1+1,0,none⟩=some (.int .i64 0)∧
   jC w G (ZG h k) (.returned (.tuple #[hpA g y,.int .i64 0])) ((W8.setCell ⟨w.heap.size+1+1+1,0,none⟩ (.int .i64 0)).putObj D (.deferred none)):=by
 have hg9:=ZaG W8 (w.heap.size+1+1+1) (.int .i64 0);have hr1:=S.r1
 have e1:(W8.setCell ⟨w.heap.size+1+1+1,0,none⟩ (.int .i64 0)).heap[w.heap.size+1+1+1]? =some (.cells #[.int .i64 0] 36 (0,0)):=
  Boxed.set _ (show Boxed W8 (w.heap.size+1+1+1) 36 (.int .i64 0)from(h8o _ (by omega)).trans hr1)
 have e0:(W8.setCell ⟨w.heap.size+1+1+1,0,none⟩ (.int .i64 0)).heap[w.heap.size+1+1]? =some (.cells (hpC g y) 25 (0,0)):=(Z8I _ _ _ _ (by show w.heap.size+1+1≠w.heap.size+1+1+1;omega)).trans h8;have hoth: ∀c,c≠w.heap.size+1+1→c≠w.heap.size+1+1+1→(W8.setCell ⟨w.heap.size+1+1+1,0,none⟩ (.int .i64 0)).heap[c]? =W.heap[c]? :=fun c h1 h2=>(Z8I _ _ _ _ h2).trans (h8o c h1);have hsz:(W8.setCell ⟨w.heap.size+1+1+1,0,none⟩ (.int .i64 0)).heap.size=W.heap.size:=by rw[←h8s];simp[World.setCell]
 have b9:Below w.heap.size W (W8.setCell ⟨w.heap.size+1+1+1,0,none⟩ (.int .i64 0)):=h8b.trans ⟨hg9.os,hg9.tape,hg9.output,hg9.size,fun c hc=>hg9.block c (by have:=Za hr1;omega) (fun e=>by cases e;omega)⟩;generalize W8.setCell ⟨w.heap.size+1+1+1,0,none⟩ (.int .i64 0)=W9 at*;have hD9:W9.heap[D]? =some (.deferred (some [])):=(hoth D (by omega) (by omega)).trans hD2;have hz4:=S.gr.size;have hlt:=Za hr1;have f0:(W9.putObj D (.deferred none)).heap[w.heap.size+1+1]? =some (.cells (hpC g y) 25 (0,0)):=(Z94 (by omega)).trans e0;have f1:(W9.putObj D (.deferred none)).heap[w.heap.size+1+1+1]? =some (.cells #[.int .i64 0] 36 (0,0)):=(Z94 (by omega)).trans e1;have hg:=ZaO W9 D (.deferred none)
 have heq:ZG h k=g:=by
  rcases hfin with e|e
  ·rw[←e,hgd]
  ·obtain⟨d,hd⟩: ∃d,k=done+d:=⟨k-done,by have:=S.le;omega⟩;rw[hd,Kd,Xs e,hgd]
 have hkp: ∀c,c≠w.heap.size+1+1→c≠w.heap.size+1+1+1→c≠D→(W9.putObj D (.deferred none)).heap[c]? =W.heap[c]? :=fun c h1 h2 h3=>(Z94 (by omega)).trans (hoth c h1 h2);refine⟨hD9,fun j=>Z8s _ _ j _ _ _ f0,by rw[Z8s _ _ _ _ _ _ f1];rfl,y,by rw[heq],⟨?_,?_,?_,?_,fun c hc=> ?_⟩,fun j hj=> ?_⟩
 ·rw[hg.os,b9.os];exact S.gr.os
 ·rw[hg.tape,b9.tape];exact S.gr.tape
 ·rw[hg.output,b9.output];exact S.gr.output
 ·have:=hg.size;omega
 ·rw[hkp c (by omega) (by omega) (by omega)];exact S.gr.block c hc (by simp)
 ·rw[heq];have h1:=hn.rd j hj;have hW:W.heap.size≤(W9.putObj D (.deferred none)).heap.size:=by have:=hg.size;omega
  generalize hL:(lsH g j).map vu=L at h1⊢;generalize y j=yj at h1⊢;cases h1 with
  |nil a cap hc=>exact .nil a cap hc
  |sl _ d o cap k' vs q1 q2 q3 q4 q5 q6=>
   have hB':G d∨w.heap.size+4≤d:=by have:=q3.1;rw[hB]at this;exact this
   have hG':G d→d<w.heap.size:=hG d
   have hflat: ∀i c,(flat L)[i]? =some c→Rd (W9.putObj D (.deferred none)) (fun c=>G c∨(w.heap.size≤c∧c< (W9.putObj D (.deferred none)).heap.size)) c (vs i):=fun i c hc=>by
    have h7:=q6 i c hc;rw[←hL,Uc,Z8D]at hc;cases hu:(lsH g j)[i]? with
    |none=>rw[hu]at hc;cases hc
    |some u=>
     rw[hu]at hc;cases hc;rw[Ye h7];exact .int _ _
   by_cases hdD:d=D
   ·subst hdD
    have hL0:L.length*k'=0:=by
     cases hl0:L.length*k' with
     |zero=>rfl
     |succ n=>
      have:=q5 0 (by omega);unfold World.cell? at this;rw[hD2]at this;cases this
    refine .sl _ d o cap k' vs q1 q2 ?_ q4 (fun i hi=>by omega) hflat;rcases hB' with q|q
    ·exact .inl q
    ·exact .inr ⟨by omega,by have:=Za hD2;omega⟩
   ·refine .sl _ d o cap k' vs q1 q2 ?_ q4 (fun i hi=> ?_) hflat
    ·rcases hB' with q|q
     ·exact .inl q
     ·exact .inr ⟨by omega,by have:=q3.2.1;omega⟩
    ·rw[←q5 i hi];refine Z9v (a:=⟨d,o+i,none⟩) (hkp d ?_ ?_ hdD)
     ·rcases hB' with q|q
      ·have:=hG' q;omega
      ·omega
     ·rcases hB' with q|q
      ·have:=hG' q;omega
      ·omega
theorem RB{B G:Nat→Prop}{w:World}{b:Nat}{h g:Hp}{k done:Nat}{W:World}{y:Nat→Value}{D:Nat}(S:ScI B w b h k done W)(hgd:ZG h done=g)(hfin:done=k∨(ZG h done).cycle=false)(hn:NowI B W b g y)(hB:B=fun c=>G c∨w.heap.size+4≤c)(hG: ∀c,G c→c<w.heap.size)
  (hD:w.heap.size+4≤D) (hD2:W.heap[D]? =some (.deferred (some []))):
  (((((((((((W.setCell ⟨w.heap.size+1+1,0,none⟩ (.int .u64 g.base)).setCell ⟨w.heap.size+1+1,1,none⟩ (.int .i64 g.cap)).setCell ⟨w.heap.size+1+1,2,none⟩ (.int .i64 g.to)).setCell ⟨w.heap.size+1+1,3,none⟩ (.bool g.cycle)).setCell ⟨w.heap.size+1+1,4,none⟩ (.int .i64 g.scan)).setCell ⟨w.heap.size+1+1,5,none⟩ (y 0)).setCell ⟨w.heap.size+1+1,6,none⟩ (y 1)).setCell ⟨w.heap.size+1+1,7,none⟩ (y 2)).setCell ⟨w.heap.size+1+1,8,none⟩ (y 3)).setCell ⟨w.heap.size+1+1,9,none⟩ (y 4)).setCell ⟨w.heap.size+1+1+1,0,none⟩ (.int .i64 0)).heap[D]? =some (.deferred (some []))∧(∀j,((((((((((((W.setCell ⟨w.heap.size+1+1,0,none⟩ (.int .u64 g.base)).setCell ⟨w.heap.size+1+1,1,none⟩ (.int .i64 g.cap)).setCell ⟨w.heap.size+1+1,2,none⟩ (.int .i64 g.to)).setCell ⟨w.heap.size+1+1,3,none⟩ (.bool g.cycle)).setCell ⟨w.heap.size+1+1,4,none⟩ (.int .i64 g.scan)).setCell ⟨w.heap.size+1+1,5,none⟩ (y 0)).setCell ⟨w.heap.size+1+1,6,none⟩ (y 1)).setCell ⟨w.heap.size+1+1,7,none⟩ (y 2)).setCell ⟨w.heap.size+1+1,8,none⟩ (y 3)).setCell ⟨w.heap.size+1+1,9,none⟩ (y 4)).setCell ⟨w.heap.size+1+1+1,0,none⟩ (.int .i64 0)).putObj D (.deferred none)).cell? ⟨w.heap.size+1+1,j,none⟩=(hpC g y)[j]?)∧((((((((((((W.setCell ⟨w.heap.size+1+1,0,none⟩ (.int .u64 g.base)).setCell ⟨w.heap.size+1+1,1,none⟩ (.int .i64 g.cap)).setCell ⟨w.heap.size+1+1,2,none⟩ (.int .i64 g.to)).setCell ⟨w.heap.size+1+1,3,none⟩ (.bool g.cycle)).setCell ⟨w.heap.size+1+1,4,none⟩ (.int .i64 g.scan)).setCell ⟨w.heap.size+1+1,5,none⟩ (y 0)).setCell ⟨w.heap.size+1+1,6,none⟩ (y 1)).setCell ⟨w.heap.size+1+1,7,none⟩ (y 2)).setCell ⟨w.heap.size+1+1,8,none⟩ (y 3)).setCell ⟨w.heap.size+1+1,9,none⟩ (y 4)).setCell ⟨w.heap.size+1+1+1,0,none⟩ (.int .i64 0)).putObj D (.deferred none)).cell? ⟨w.heap.size+1+1+1,0,none⟩=some (.int .i64 0)∧
    jC w G (ZG h k) (.returned (.tuple #[hpA g y,.int .i64 0])) ((((((((((((W.setCell ⟨w.heap.size+1+1,0,none⟩ (.int .u64 g.base)).setCell ⟨w.heap.size+1+1,1,none⟩ (.int .i64 g.cap)).setCell ⟨w.heap.size+1+1,2,none⟩ (.int .i64 g.to)).setCell ⟨w.heap.size+1+1,3,none⟩ (.bool g.cycle)).setCell ⟨w.heap.size+1+1,4,none⟩ (.int .i64 g.scan)).setCell ⟨w.heap.size+1+1,5,none⟩ (y 0)).setCell ⟨w.heap.size+1+1,6,none⟩ (y 1)).setCell ⟨w.heap.size+1+1,7,none⟩ (y 2)).setCell ⟨w.heap.size+1+1,8,none⟩ (y 3)).setCell ⟨w.heap.size+1+1,9,none⟩ (y 4)).setCell ⟨w.heap.size+1+1+1,0,none⟩ (.int .i64 0)).putObj D (.deferred none)):=by
 have q1:=Zh (Z8E w.heap.size W) (b:=w.heap.size+1+1) (by omega) (.int .u64 g.base) (.int .i64 g.cap) (.int .i64 g.to) (.bool g.cycle) (.int .i64 g.scan) (y 0) (y 1) (y 2) (y 3) (y 4);have q2:=fun c (hc:c≠w.heap.size+1+1)=>Zt (w2:=W) hc (.int .u64 g.base) (.int .i64 g.cap) (.int .i64 g.to) (.bool g.cycle) (.int .i64 g.scan) (y 0) (y 1) (y 2) (y 3) (y 4);have q3:=Wq (w2:=W) (b:=w.heap.size+1+1) (T:=25) S.r0 (.int .u64 g.base) (.int .i64 g.cap) (.int .i64 g.to) (.bool g.cycle) (.int .i64 g.scan) (y 0) (y 1) (y 2) (y 3) (y 4);have q4:((((((((((W.setCell ⟨w.heap.size+1+1,0,none⟩ (.int .u64 g.base)).setCell ⟨w.heap.size+1+1,1,none⟩ (.int .i64 g.cap)).setCell ⟨w.heap.size+1+1,2,none⟩ (.int .i64 g.to)).setCell ⟨w.heap.size+1+1,3,none⟩ (.bool g.cycle)).setCell ⟨w.heap.size+1+1,4,none⟩ (.int .i64 g.scan)).setCell ⟨w.heap.size+1+1,5,none⟩ (y 0)).setCell ⟨w.heap.size+1+1,6,none⟩ (y 1)).setCell ⟨w.heap.size+1+1,7,none⟩ (y 2)).setCell ⟨w.heap.size+1+1,8,none⟩ (y 3)).setCell ⟨w.heap.size+1+1,9,none⟩ (y 4)).heap.size=W.heap.size:=by simp[World.setCell]
 generalize ((((((((((W.setCell ⟨w.heap.size+1+1,0,none⟩ (.int .u64 g.base)).setCell ⟨w.heap.size+1+1,1,none⟩ (.int .i64 g.cap)).setCell ⟨w.heap.size+1+1,2,none⟩ (.int .i64 g.to)).setCell ⟨w.heap.size+1+1,3,none⟩ (.bool g.cycle)).setCell ⟨w.heap.size+1+1,4,none⟩ (.int .i64 g.scan)).setCell ⟨w.heap.size+1+1,5,none⟩ (y 0)).setCell ⟨w.heap.size+1+1,6,none⟩ (y 1)).setCell ⟨w.heap.size+1+1,7,none⟩ (y 2)).setCell ⟨w.heap.size+1+1,8,none⟩ (y 3)).setCell ⟨w.heap.size+1+1,9,none⟩ (y 4))=W8 at*;exact Z28 S hgd hfin hn hB hG hD hD2 q1 q4 q2 q3
theorem Je(w:World)(G:Nat→Prop)(hG: ∀b,G b→b<w.heap.size)(h:Hp)(hh:h.ok)(src:Nat→Value)(hs: ∀j,j<5→Rd w G (.sl ((lsH h j).map vu)) (src j)){p:Pts}(r:Rt h p){k:Nat}(hk:(k:Int) <9223372036854775808):
  Calls Try.prog 46 #[hpA h src,.int .i64 k] w (jC w G (ZG h k)):=by
 refine(Zas (n:=5)).1 ?_;have hmf: ∀(fn:Go.Fn) (first cap:Array Value) (w:World),(Instr.makeFunc fn first cap).run Try.prog w= .ok (.func fn first cap) w:=fun _ _ _ _=>rfl;refine callsIn_of_wp_marks Try.func46 rfl trivial ?_ rfl;simp only[Try.ntmps46,Z9F,Z9o,Z9L,Nat.reduceAdd,Nat.reduceSub,Zad,Zae,Zay,Zam,Z9d,Z9s];have HO:=fun W (hb:Below w.heap.size w W)=>jq W G (fun b q=>Z8z (hG b q) hb.size) h hh src fun j hj=>(hs j hj).keep (fun b hb'=>hb.block b (hG b hb')) fun _ q=>q;have HO':=Z8r HO;clear HO;unfold hpA
 gi_wp2
 refine yS ?_
 gi_wp2
 refine⟨trivial,(Zas.2 (HO'.out _ (((((Z8E _ _).alloc (Z8v _) _).alloc (by simp) _).alloc (by simp;omega) _).alloc (by simp;omega) _))).mono ?_⟩;rintro e w1 ⟨x1,rfl,hb1,hx1⟩;obtain⟨a0,c0,e0⟩:=Rd.slfT (hx1 0 (by omega));obtain⟨a1,c1,e1⟩:=Rd.slfT (hx1 1 (by omega));obtain⟨a2,c2,e2⟩:=Rd.slfT (hx1 2 (by omega));obtain⟨a3,c3,e3⟩:=Rd.slfT (hx1 3 (by omega));obtain⟨a4,c4,e4⟩:=Rd.slfT (hx1 4 (by omega));have HB1:=Z8r (And.intro hb1 hx1);clear hb1 hx1;unfold hpA
 gi_wp2
 refine wpIn_label ?_
 gi_wp2
 refine⟨trivial,(Zas.2 (Ll _ _)).mono ?_⟩;rintro e w3 ⟨rfl,hw3⟩;obtain⟨w0,hw0,hz0,hg0,k1,k2,k3⟩:=qP w (.cells #[.int .u64 h.base,.int .i64 h.cap,.int .i64 h.to,.bool h.cycle,.int .i64 h.scan,src 0,src 1,src 2,src 3,src 4] 25) (.cells #[.int .i64 k] 3) (.cells ze10 25) (.cells #[.int .i64 0] 36)
 have hC:hpC h x1= #[.int .u64 h.base,.int .i64 h.cap,.int .i64 h.to,.bool h.cycle,.int .i64 h.scan,.slice a0 (lsH h 0).length c0,.slice a1 (lsH h 1).length c1,.slice a2 (lsH h 2).length c2,.slice a3 (lsH h 3).length c3,.slice a4 (lsH h 4).length c4]:=by
  simp only[hpC,e0,e1,e2,e3,e4,Z8P]
 have HB2:=HB1.out;unfold ze10 at hw0;rw[hw0]at HB2;obtain⟨w3',hw3',hz3,hz1,hSc,hKn⟩:=yR hG hh r hz0 hg0 k1 k2 k3 HB2.1 HB2.2;rw[hC]at hw3';rw[hw3']at hw3;subst hw3;clear HB1 HB2 hw3' hC e0 e1 e2 e3 e4 hw0 k1 k2 k3 HO';simp only[Za2]
 gi_wp2
 have hb4:w.heap.size+4≤w1.heap.size:=by omega
 have hBk: ¬(G (w.heap.size+1)∨w.heap.size+4≤w.heap.size+1):=fun h=>by
  rcases h with h|h
  ·have:=hG _ h;omega
  ·omega
 generalize hbb:w1.heap.size=b at*;obtain⟨B,hB⟩: ∃B:Nat→Prop,B=fun c=>G c∨w.heap.size+4≤c:=⟨_,rfl⟩;rw[←hB]at hSc hKn;have hBk': ¬B (w.heap.size+1):=by rw[hB];exact hBk
 have hBW: ∀c,w.heap.size+4≤c→B c:=fun c hc=>by rw[hB];exact .inr hc
 have HBd:=Z8r hB;clear hB hBk;have hseq:=qK 4 (B:=B) (b:=b) (bk:=b+2) (kb:=w.heap.size+1) hKn (by omega) (by omega) (by omega) (by omega)
 refine TA rfl (by omega) (gf:=104) (lb:= #[.pointer (some ⟨b+2,0,none⟩)]) ?hg trivial (enters_of Try.func104 (by kernel_rfl) rfl)
  hseq KpN.trans (fun W l o o' _ h2 h3 _=>KpN.put o' h2 h3) (Z8E _ _) (fun _=>rfl)
  (fun pre W=> ∃done,ScI B w b h k done W∧(pre.length:Int)≤(ZG h done).scan)
  (fun c pre W=>c= .exit 0∧ ∃done,ScI B w b h k done W∧(done=k∨(ZG h done).cycle=false))
  ?hI (fun _ _ _=>trivial) ?hIx ?hPx ?hS ⟨0,hSc,by have:=r.scan0;show((0:Nat):Int)≤h.scan;omega⟩
  (fun x=> {tmps:= #[.agg #[.int .u64 h.base,.int .i64 h.cap,.int .i64 h.to,.bool h.cycle,.int .i64 h.scan,src 0,src 1,src 2,src 3,src 4],.int .i64 k,.pointer (some ⟨w.heap.size,0,none⟩),.pointer (some ⟨w.heap.size+1,0,none⟩),.pointer (some ⟨w.heap.size+1+1,0,none⟩),.pointer (some ⟨w.heap.size+1+1+1,0,none⟩),.pointer (some ⟨b,0,none⟩),.pointer (some ⟨b+1,0,none⟩),.int .i64 (x.1:Nat),.bool x.2,undef,
    .agg #[.int .u64 h.base,.int .i64 h.cap,.int .i64 h.to,.bool h.cycle,.int .i64 h.scan,src 0,src 1,src 2,src 3,src 4],.agg #[.int .u64 h.base,.int .i64 h.cap,.int .i64 h.to,.bool h.cycle,.int .i64 h.scan,.slice a0 (lsH h 0).length c0,.slice a1 (lsH h 1).length c1,.slice a2 (lsH h 2).length c2,.slice a3 (lsH h 3).length c3,.slice a4 (lsH h 4).length c4],
    .func (.func 79) #[] #[.pointer (some ⟨b,0,none⟩)],.func (.func 104) #[] #[.pointer (some ⟨b+2,0,none⟩)],.int .i64 (x.1:Nat),.bool x.2,undef,undef,undef,undef,undef,undef,undef,undef,undef,undef,undef,undef,undef,undef,undef,undef,undef,undef,undef,undef,undef,undef,undef],defers:= []})
  ?assign ?body ?done ?stop
 case hg=>rfl
 case hI=>
  rintro pre X Y row ⟨done,S,hl⟩ hg hr;exact⟨done,S.abide hg fun r e=>⟨by have:=(hr r e).1;omega,(hr r e).2⟩,hl⟩
 case hIx=>
  rintro c pre X Y row ⟨hc,done,S,hl⟩ hg hr;exact⟨hc,done,S.abide hg fun r e=>⟨by have:=(hr r e).1;omega,(hr r e).2⟩,hl⟩
 case hPx=>
  rintro pre x _ X Y row ⟨p',hp',hx⟩ hg hr;exact⟨p',hp'.abide hg fun r e=>(hr r e).2,hx⟩
 case hS=>
  rintro xs X Y row ⟨g,x,hx,hl⟩ hg hr;exact⟨g,x,hx.abide hg fun r e=>(hr r e).2,hl⟩
 case assign=>
  rintro l x W K2 hK2;simp only[ZbD,Array.zip,kwA]
  gi_wp2
  exact hK2
 case body=>
  rintro l pre x W ⟨done,S,hle⟩ ⟨p',hin,hx⟩ hlen;obtain⟨q,sc⟩:=r.scans done;have gok:=WD hh r done;obtain⟨y,hn⟩:=S.now
  have rq:Rt (ZG h done) p'∧x=(pre.length,Yz p'.low pre.length):=by
   obtain⟨g',x',h1,h2,h3⟩:=hin;have:=hn.uniq h1;subst this;exact⟨h3,hx⟩
  obtain⟨rg,hxe⟩:=rq;subst hxe;obtain⟨g,hgd⟩: ∃g,ZG h done=g:=⟨_,rfl⟩;have hnb:=hn.nb;have hONE:=Z0H W B b (fun c hc=>hBW c (by have:=Za hnb;omega)) _ y hn gok rg;rw[hgd]at hle gok rg hnb hONE;unfold hpC at hnb;have yb: ∀j,W.cell? ⟨b,j,none⟩=(#[.int .u64 g.base,.int .i64 g.cap,.int .i64 g.to,.bool g.cycle,.int .i64 g.scan,y 0,y 1,y 2,y 3,y 4]:Array Value)[j]? :=fun j=>Z8s _ _ _ _ _ _ hnb;have ykb:=Z8s _ _ 0 _ _ _ S.kb;have yfn:=Z8s _ _ 0 _ _ _ S.fn;simp only[Z9S,Z9V]at ykb yfn;have fkb:W.frozen? ⟨w.heap.size+1,0,none⟩=false:=Zk S.kb;by_cases hend:done=k∨g.cycle=false
  ·have HE:=Z8r (And.intro S (And.intro hend hgd))
   have hor:((k:Int) - (done:Nat)==0)=true∨(((k:Int) - (done:Nat)==0)=false∧g.cycle=false):=by
    rcases hend with e|e
    ·exact .inl (by simp;omega)
    ·by_cases e2:done=k
     ·exact .inl (by simp;omega)
     ·exact .inr ⟨by simp;omega,e⟩
   clear hn S hnb hend hgd hin hONE;rcases hor with hq| ⟨hq,hcf⟩
   ·gi_wp2
    exact⟨Zcf _ _,rfl,done,HE.out.1,by rw[HE.out.2.2];exact HE.out.2.1⟩
   ·gi_wp2
    exact⟨Zcf _ _,rfl,done,HE.out.1,by rw[HE.out.2.2];exact HE.out.2.1⟩
  ·have hd:done<k:=by have:=S.le;omega
   have hct:g.cycle=true:=by cases hcc:g.cycle<;>simp_all
   have hq:((k:Int) - (done:Nat)==0)=false:=by simp;omega
   have hscan:=rg.scanL;have HH:=Z8r (And.intro S (And.intro hn (And.intro hgd (And.intro rg hd))));have HOn:=Z8r (hONE hct);have ylow:=hn.rd 0 (by omega);by_cases hlt:pre.length<g.scan
   ·have hltI:((pre.length:Int) <g.scan)=True:=ZaJ hlt;clear hn S hnb hend hgd hin hONE rg ylow
    gi_wp2
    exact⟨Zcf _ _,⟨Z8v _,fun _ _ h _ _ _=>h,fun p hp=>⟨p,[],hp,by simp⟩⟩,done,HH.out.1,by rw[HH.out.2.2.1];simp;omega⟩
   ·have hltI:((pre.length:Int) <g.scan)=False:=Zan hlt;have hpe:(pre.length:Int)=g.scan:=by omega
    clear hn S hnb hend hgd hin hONE rg ylow
    gi_wp2
    refine⟨trivial,(CallsIn.inRound l (Zas.2 HOn.out)).mono ?_⟩;rintro e W2 ⟨rfl,hg2,hn2⟩;have w1k:=Z1 ((k:Int) - (done:Nat) -1) (by omega) (by omega);obtain⟨s1,s2,s3,s4,s5⟩:=HH.out;rw[←s3]at hn2;have hst:=s1.step hh r (by rw[s3];exact s4) (by rw[s3];exact hct) hBk' hb4 s5 hg2 hn2;have hkb2:W2.heap[w.heap.size+1]? =some (.cells #[.int .i64 ((k:Int) - (done:Nat))] 3 (0,0)):=(hg2.block _ (Za s1.kb) (fun e=>by cases e;omega)).trans s1.kb;have ykb2:=Z8s _ _ 0 _ _ _ hkb2;simp only[Z9S,Z9V]at ykb2;have fkb2:W2.frozen? ⟨w.heap.size+1,0,none⟩=false:=Zk hkb2;have HST:=Z8r hst;have HPE:=Z8r hpe;clear s1 s2 s3 s4 s5 hg2 hn2 hst hkb2 hpe
    gi_wp2
    obtain⟨t1,t2,t3,t4⟩:=HST.out;obtain⟨s1,s2,s3,s4,s5⟩:=HH.out;have hz3:=s1.gr.size;refine⟨(KeepsFrom.of_grownBy t3 fun j e=>by cases e;omega).trans (KeepsFrom.of_grownBy t4 fun j e=>by cases e;omega),t2,done+1,t1,?_⟩;obtain⟨g',q',f⟩:=s4.scan hct;rw[YV,s3,hct];simp only[Z9c];rw[f.eq,f.num.2.2.2];have:=HPE.out;simp;omega
 case done=>
  rintro D xs W hD ⟨g0,x0,hn0,hl0⟩ ⟨done,S,hle⟩ hD2
  have hfin:done=k∨(ZG h done).cycle=false:=by
   obtain⟨q,sc⟩:=r.scans done;obtain⟨y,hn⟩:=S.now;have:=hn.uniq hn0;subst this;cases hcc:(ZG h done).cycle with
   |false=>exact .inr rfl
   |true=>have:=sc.rt.cyc hcc;omega
  obtain⟨y,hn⟩:=S.now;have HF:=Z8r (And.intro S (And.intro hfin hn));have hnb:=hn.nb;obtain⟨d0,f0,g0'⟩:=Rd.slfT (hn.rd 0 (by omega));obtain⟨d1,f1,g1⟩:=Rd.slfT (hn.rd 1 (by omega));obtain⟨d2,f2,g2⟩:=Rd.slfT (hn.rd 2 (by omega));obtain⟨d3,f3,g3⟩:=Rd.slfT (hn.rd 3 (by omega));obtain⟨d4,f4,g4⟩:=Rd.slfT (hn.rd 4 (by omega));unfold hpC at hnb;rw[g0',g1,g2,g3,g4]at hnb;have yb: ∀j,W.cell? ⟨b,j,none⟩=_:=fun j=>Z8s _ _ _ _ _ _ hnb;have yr0: ∀j,W.cell? ⟨w.heap.size+1+1,j,none⟩=_:=fun j=>Z8s _ _ _ _ _ _ S.r0;have yr1: ∀j,W.cell? ⟨w.heap.size+1+1+1,j,none⟩=_:=fun j=>Z8s _ _ _ _ _ _ S.r1;have fr0: ∀j,W.frozen? ⟨w.heap.size+1+1,j,none⟩=false:=fun j=>Zk S.r0;have fr1: ∀j,W.frozen? ⟨w.heap.size+1+1+1,j,none⟩=false:=fun j=>Zk S.r1;unfold ze10 at yr0;have k0:=RB (G:=G) S rfl hfin hn HBd.out hG (by omega) hD2;unfold hpC hpA at k0;rw[g0',g1,g2,g3,g4]at k0;simp only[Z8P]at k0;obtain⟨k1,k2,k4,k3⟩:=k0;have HK:=Z8r k3;clear hn0 hl0 hle hfin hn hnb S g0' g1 g2 g3 g4 k3
  gi_wp2
  refine⟨by simp,.inl ⟨D,_,rfl,Zbj k1,?_⟩⟩;refine⟨_,?_,HK.out⟩;clear HK HF k1;generalize World.putObj _ D (.deferred none)=W10 at k2 k4⊢;simp[results,Try.results46,go_sem,k2,k4]
 case stop=>
  rintro D c pre W hD ⟨rfl,done,S,hfin⟩ hD2;obtain⟨y,hn⟩:=S.now;have HF:=Z8r (And.intro S (And.intro hfin hn));have hnb:=hn.nb;obtain⟨d0,f0,g0'⟩:=Rd.slfT (hn.rd 0 (by omega));obtain⟨d1,f1,g1⟩:=Rd.slfT (hn.rd 1 (by omega));obtain⟨d2,f2,g2⟩:=Rd.slfT (hn.rd 2 (by omega));obtain⟨d3,f3,g3⟩:=Rd.slfT (hn.rd 3 (by omega));obtain⟨d4,f4,g4⟩:=Rd.slfT (hn.rd 4 (by omega));unfold hpC at hnb;rw[g0',g1,g2,g3,g4]at hnb;have yb: ∀j,W.cell? ⟨b,j,none⟩=_:=fun j=>Z8s _ _ _ _ _ _ hnb;have yr0: ∀j,W.cell? ⟨w.heap.size+1+1,j,none⟩=_:=fun j=>Z8s _ _ _ _ _ _ S.r0;have yr1: ∀j,W.cell? ⟨w.heap.size+1+1+1,j,none⟩=_:=fun j=>Z8s _ _ _ _ _ _ S.r1;have fr0: ∀j,W.frozen? ⟨w.heap.size+1+1,j,none⟩=false:=fun j=>Zk S.r0;have fr1: ∀j,W.frozen? ⟨w.heap.size+1+1+1,j,none⟩=false:=fun j=>Zk S.r1;unfold ze10 at yr0;have k0:=RB (G:=G) S rfl hfin hn HBd.out hG (by omega) hD2;unfold hpC hpA at k0;rw[g0',g1,g2,g3,g4]at k0;simp only[Z8P]at k0;obtain⟨k1,k2,k4,k3⟩:=k0;have HK:=Z8r k3;clear hfin hn hnb S g0' g1 g2 g3 g4 k3
  gi_wp2
  refine⟨by simp,.inl ⟨D,_,rfl,Zbj k1,?_⟩⟩;refine⟨_,?_,HK.out⟩;clear HK HF k1;generalize World.putObj _ D (.deferred none)=W10 at k2 k4⊢;simp[results,Try.results46,go_sem,k2,k4]
end Vm
end
section
namespace Vm
open Go Go.Proofs Go.RowKit
set_option maxRecDepth 100000
theorem Z0o:Ji:=by
 intro h p k hh r hk hf;obtain⟨n,rfl⟩:=Z8H hk;rw[Z8B];refine⟨by kernel_rfl,fun w G vs hG hsz hvs=> ?_⟩;have r0:=hvs 0 _ rfl;have r1:=hvs 1 _ rfl
 have he:vs= #[vs.getD 0 undef,vs.getD 1 undef]:=by
  have hs3:vs.size=2:=hsz;apply Zbh
  ·simp[hs3]
  ·intro i h1 h2;have hi:i<2:=by omega
   match i,hi with
   |0,_=>simp[Array.getD,hs3]
   |1,_=>simp[Array.getD,hs3]
 obtain⟨src,e0,hs⟩:=Jt r0;have e1:=Ye r1;rw[he,e0,e1];refine(Je w G hG h hh src hs r (by have:=hf.2;omega)).mono ?_;rintro e w' ⟨x,rfl,hb',hr⟩;refine⟨_,rfl,hb',?_⟩;refine .tup _ _ rfl ?_;intro i y hy
 match i,hy with
 |0,hy=>cases hy;exact Qr fun j hj=>(hr j hj).mono fun b hb=>hb.imp (fun q=>⟨rfl,q⟩) id
 |1,hy=>cases hy;exact .int _ _
end Vm
end
section
namespace Vm
open Go Go.Proofs Go.RowKit
set_option maxHeartbeats 2000000
set_option maxRecDepth 100000
theorem Z2E{W:World}{G:Nat→Prop}{g:Hp}{e:Int}{v:Value}(r:Rd W G (.tup [hpV g,vi e]) v): ∃x,v= .tuple #[hpA g x,.int .i64 e]∧ ∀j,j<5→Rd W G (.sl ((lsH g j).map vu)) (x j):=by
 cases r with
 |tup _ vs hl hr=>
  obtain⟨x,e0,hx⟩:=Jt (hr 0 _ rfl);have e1:=Ye (hr 1 _ rfl);refine⟨x,?_,hx⟩;congr 1;have hl2:vs.size=2:=by simpa using hl
  apply Zbh
  ·simp[hl2]
  ·intro i h1 h2;have hi:i<2:=by omega
   match i,hi with
   |0,_=>simp[Array.getD,hl2]at e0;simpa using e0
   |1,_=>simp[Array.getD,hl2]at e1;simpa using e1
def Kb(G:Nat→Prop)(W:World)(r:Hp×Int)(e:Ending)(W':World):Prop:=
 ∃x,e= .returned (.tuple #[hpA r.1 x,.int .i64 r.2])∧Below W.heap.size W W'∧ ∀j,j<5→Rd W' (fun c=>G c∨(W.heap.size≤c∧c<W'.heap.size)) (.sl ((lsH r.1 j).map vu)) (x j)
theorem Z0C{f:FuncId}{h g:Hp}{k ee:Int}(hv:VC Try.prog f false [hpV h,vi k] (.tup [hpV g,vi ee])){W:World}{G:Nat→Prop}{x:Nat→Value}(hG: ∀b,G b→b<W.heap.size)(hr: ∀j,j<5→Rd W G (.sl ((lsH h j).map vu)) (x j)):
  Calls Try.prog f #[hpA h x,.int .i64 k] W (Kb G W (g,ee)):=by
 refine Zap (hv.2 W G _ hG rfl ?_) ?_
 ·intro i y hy
  match i,hy with
  |0,hy=>cases hy;exact Qr hr
  |1,hy=>cases hy;exact .int _ _
 ·rintro e w' ⟨v,rfl,hb,hv⟩;obtain⟨x',rfl,hx⟩:=Z2E hv;exact⟨x',rfl,hb,fun j hj=>(hx j hj).mono fun b hb'=>by simpa using hb'⟩
theorem RX{h:Hp}(hh:h.ok){p:Pts}(r:Rt h p){n:Int}(hn:0≤n∧n≤1000){W:World}{G:Nat→Prop}{x:Nat→Value}(hG: ∀b,G b→b<W.heap.size)(hr: ∀j,j<5→Rd W G (.sl ((lsH h j).map vu)) (x j)):
  Calls Try.prog 49 #[hpA h x,.int .i64 n] W fun e w'=>e= .returned (.bool (X9 h p n))∧Below W.heap.size W w':=by
 refine Zap ((Z2W hh r hn).2 W G _ hG rfl ?_) ?_
 ·intro i y hy
  match i,hy with
  |0,hy=>cases hy;exact Qr hr
  |1,hy=>cases hy;exact .int _ _
 ·rintro e w' ⟨v,rfl,hb,hv⟩;exact⟨by rw[VW hv],hb⟩
theorem yU{s p:Int}(w:World):Calls Try.prog 47 #[.agg #[.int .i64 s,.int .i64 p]] w fun e w'=>e= .returned (.tuple #[.int .u64 (Xd s p).1,.int .i64 (Xd s p).2])∧Below w.heap.size w w':=
 Yf (KW (s:=s) (p:=p)) rfl rfl w
def nowA(g:Hp)(x:Nat→Value):Array Value:= #[.int .u64 g.base,.int .i64 g.cap,.int .i64 g.to,.bool g.cycle,.int .i64 g.scan,x 0,x 1,x 2,x 3,x 4]
structure PSt (w W:World) (nb:Nat) (g:Hp) (x:Nat→Value) (Q:Prop):Prop where
 res:W.heap[w.heap.size+2]? =some (.cells Zf 25 (0,0))
 now:W.heap[nb]? =some (.cells (nowA g x) 25 (0,0))
 rd: ∀j,j<5→Rd W (fun c=>w.heap.size+3≤c∧c<W.heap.size∧c≠nb) (.sl ((lsH g j).map vu)) (x j)
 bel:Below w.heap.size w W
 nB:w.heap.size+3≤nb
 own:Q→HOwn (w.heap.size+3) W g x∧ ∀j,j<5→ ∀c,(x j).ownBlock=some c→c≠nb
theorem PSt.below{w W W':World}{nb:Nat}{g:Hp}{x:Nat→Value}{Q:Prop}(s:PSt w W nb g x Q)(hb:Below W.heap.size W W'):PSt w W' nb g x Q:=by
 have h1:=Za s.now;have h2:=Za s.res;have h3:=hb.size;refine⟨(hb.block _ h2).trans s.res,(hb.block _ h1).trans s.now,fun j hj=>((s.rd j hj).keep (fun b hb'=>hb.block b hb'.2.1) fun _ q=>q).mono fun b q=>⟨q.1,by omega,q.2.2⟩,s.bel.trans (hb.mono s.bel.size),s.nB,fun q=>⟨⟨fun j hj=>Ze ((s.own q).1.own j hj) fun c hc=>hb.block _ (((s.own q).1.own j hj).lt c hc).2,(s.own q).1.apart⟩,(s.own q).2⟩⟩
theorem PSt.F{w W:World}{nb:Nat}{g:Hp}{x:Nat→Value}{Q:Prop}(s:PSt w W nb g x Q):(∀j,W.cell? ⟨nb,j,none⟩=(#[.int .u64 g.base,.int .i64 g.cap,.int .i64 g.to,.bool g.cycle,.int .i64 g.scan,x 0,x 1,x 2,x 3,x 4]:Array Value)[j]?)∧ ∀j,W.frozen? ⟨nb,j,none⟩=false:=
 ⟨fun j=>Z8s _ _ _ _ _ _ s.now,fun j=>Zk s.now⟩
theorem PSt.R{w W:World}{nb:Nat}{g:Hp}{x:Nat→Value}{Q:Prop}(s:PSt w W nb g x Q):(∀j,W.cell? ⟨w.heap.size+1+1,j,none⟩=(#[.int .u64 0,.int .i64 0,.int .i64 0,.bool false,.int .i64 0,.slice none 0 0,.slice none 0 0,.slice none 0 0,.slice none 0 0,.slice none 0 0]:Array Value)[j]?)∧ ∀j,W.frozen? ⟨w.heap.size+1+1,j,none⟩=false:=
 ⟨fun j=>Z8s _ _ _ _ _ _ s.res,fun j=>Zk s.res⟩
def WP(W:World)(b:Nat)(v0 v1 v2 v3 v4 v5 v6 v7 v8 v9:Value):World:=(((((((((W.setCell ⟨b,0,none⟩ v0).setCell ⟨b,1,none⟩ v1).setCell ⟨b,2,none⟩ v2).setCell ⟨b,3,none⟩ v3).setCell ⟨b,4,none⟩ v4).setCell ⟨b,5,none⟩ v5).setCell ⟨b,6,none⟩ v6).setCell ⟨b,7,none⟩ v7).setCell ⟨b,8,none⟩ v8).setCell ⟨b,9,none⟩ v9
theorem UB{W:World}{nb:Nat}{g:Hp}{x:Nat→Value}{T:TypeId}(hb:W.heap[nb]? =some (.cells (nowA g x) T (0,0)))(v0 v1 v2 v3 v4 v5 v6 v7 v8 v9:Value):(WP W nb v0 v1 v2 v3 v4 v5 v6 v7 v8 v9).heap[nb]? =some (.cells #[v0,v1,v2,v3,v4,v5,v6,v7,v8,v9] T (0,0)):=by
 unfold nowA at hb;unfold WP;simp[World.setCell,Z8R,hb]
theorem Vz(W:World)(nb:Nat)(v0 v1 v2 v3 v4 v5 v6 v7 v8 v9:Value):(WP W nb v0 v1 v2 v3 v4 v5 v6 v7 v8 v9).heap.size=W.heap.size:=by
 unfold WP;simp[World.setCell]
theorem PSt.store{w W W2:World}{nb:Nat}{g g2:Hp}{x x2:Nat→Value}{Q:Prop}(s:PSt w W nb g x Q)(hb:Below W.heap.size W W2)
  (hr: ∀j,j<5→Rd W2 (fun c=>(w.heap.size+3≤c∧c<W.heap.size∧c≠nb)∨(W.heap.size≤c∧c<W2.heap.size)) (.sl ((lsH g2 j).map vu)) (x2 j)):
  PSt w (WP W2 nb (.int .u64 g2.base) (.int .i64 g2.cap) (.int .i64 g2.to) (.bool g2.cycle) (.int .i64 g2.scan) (x2 0) (x2 1) (x2 2) (x2 3) (x2 4)) nb g2 x2 False:=by
 have s2:=s.below hb;have h1:=Za s.now;have hs:=hb.size;have h0:=s.bel.size;have hn:=s.nB;refine⟨(Zt (by omega) _ _ _ _ _ _ _ _ _ _).trans s2.res,UB s2.now _ _ _ _ _ _ _ _ _ _,fun j hj=>((hr j hj).keep (fun b hb'=> ?_) fun _ q=>q).mono fun b q=> ?_,Zh s2.bel (by omega) _ _ _ _ _ _ _ _ _ _,hn,fun q=>q.elim⟩
 ·exact Zt (by rcases hb' with q|q<;>omega) _ _ _ _ _ _ _ _ _ _
 ·rw[Vz];rcases q with q|q
  ·exact⟨q.1,by omega,q.2.2⟩
  ·exact⟨by omega,q.2,by omega⟩
def Q5(w:World)(r:Int×Hp×Int)(Q:Prop)(e:Ending)(w':World):Prop:=
 ∃x,e= .returned (.tuple #[.int .u64 r.1,hpA r.2.1 x,.int .i64 r.2.2])∧Below w.heap.size w w'∧(∀j,j<5→Rd w' (fun c=>w.heap.size≤c∧c<w'.heap.size) (.sl ((lsH r.2.1 j).map vu)) (x j))∧(Q→HOwn w.heap.size w' r.2.1 x)
def Yu(g:Hp)(wd:Int)(n:Nat):Hp:= {g with high:=(wd::List.replicate n 0)++g.high}
structure Tri (w W:World) (o0 o1:Obj):Prop where
 b0:W.heap[w.heap.size]? =some o0
 b1:W.heap[w.heap.size+1]? =some o1
 b2:W.heap[w.heap.size+2]? =some (.cells Zf 25 (0,0))
 bel:Below w.heap.size w W
theorem zY(w:World)(o0 o1:Obj): ∃W,((w.alloc o0).alloc o1).alloc (.cells #[.int .u64 0,.int .i64 0,.int .i64 0,.bool false,.int .i64 0,.slice none 0 0,.slice none 0 0,.slice none 0 0,.slice none 0 0,.slice none 0 0] 25)=W∧W.heap.size=w.heap.size+3∧Tri w W o0 o1:=by
 refine⟨_,rfl,by simp,?_,?_,?_,(((Z8E _ _).alloc (Z8v _) _).alloc (by simp) _).alloc (by simp;omega) _⟩
 ·rw[Z8t _ _ _ (by simp;omega),Z8t _ _ _ (by simp)];exact Z8C _ _
 ·rw[Z8t _ _ _ (by simp)];exact KS _ _ _
 ·have:=Z8C ((w.alloc o0).alloc o1) (.cells Zf 25);simpa[Zf]using this
theorem Tri.below{w W W':World}{o0 o1:Obj}(s:Tri w W o0 o1)(hb:Below W.heap.size W W'):Tri w W' o0 o1:=
 ⟨(hb.block _ (Za s.b0)).trans s.b0,(hb.block _ (Za s.b1)).trans s.b1,(hb.block _ (Za s.b2)).trans s.b2,s.bel.trans (hb.mono s.bel.size)⟩
theorem Tri.F{w W:World}{c0 c1:Array Value}{t0 t1:TypeId}(s:Tri w W (.cells c0 t0) (.cells c1 t1)):(∀j,W.cell? ⟨w.heap.size,j,none⟩=c0[j]?)∧(∀j,W.cell? ⟨w.heap.size+1,j,none⟩=c1[j]?)∧(∀j,W.cell? ⟨w.heap.size+1+1,j,none⟩=Zf[j]?)∧ ∀j,W.frozen? ⟨w.heap.size+1+1,j,none⟩=false:=
 ⟨fun j=>Z8s _ _ _ _ _ _ s.b0,fun j=>Z8s _ _ _ _ _ _ s.b1,fun j=>Z8s _ _ _ _ _ _ s.b2,fun j=>Zk s.b2⟩
theorem Z5i{w w2 w5 W6:World}{o0 o1:Obj}{h:Hp}{y:Nat→Value}(s:Tri w w2 o0 o1)(hw2:w.heap.size+3≤w2.heap.size)(hb:Below w2.heap.size w2 w5)
  (ho:HOwn w2.heap.size w5 h y) (hW:w5.alloc (.cells (nowA h y) 25)=W6):PSt w W6 w5.heap.size h y True:=by
 have s5:=s.below hb;have hs:=hb.size;have hA: ∀j,j<5→ ∀c,(y j).ownBlock=some c→w2.heap.size≤c∧c<w5.heap.size:=fun j hj c hc=>((ho.own j hj).lt c hc);have hz6:W6.heap.size=w5.heap.size+1:=by rw[←hW];simp
 have h2:=Za s.b2;have ho':HOwn (w.heap.size+3) W6 h y:=⟨fun j hj=>Tf (Ze (ho.own j hj) fun c hc=>by rw[←hW];exact Z8t _ _ _ (hA j hj c hc).2) fun c h1 h2=>⟨by omega,h2⟩,ho.apart⟩;refine⟨by rw[←hW];exact(Z8t _ _ _ (Za s5.b2)).trans s5.b2,by rw[←hW];exact Z8C _ _,fun j hj=> ?_,by rw[←hW];exact s5.bel.alloc s5.bel.size _,by omega,fun _=>⟨ho',fun j hj c hc=>by have:=(hA j hj c hc).2;omega⟩⟩;refine((Vc (k:= .u64) (ho.own j hj) (G:=fun c=>w2.heap.size≤c∧c<w5.heap.size) fun c h1 h2=>⟨h1,h2⟩).keep (fun b hb'=>by rw[←hW];exact Z8t _ _ _ hb'.2) fun _ q=>q).mono fun b q=>⟨by omega,by omega,by omega⟩
theorem ZI{W:World}{G:Nat→Prop}{l:List Int}{y:Value}(h:Rd W G (.sl (l.map vu)) y): ∃a c,y= .slice a l.length c:=by
 generalize hL:l.map vu=L at h;have hl:L.length=l.length:=by rw[←hL,Z8P]
 cases h with
 |nil a c h1=>exact⟨_,_,by rw[←hl];rfl⟩
 |sl _ b o cap kk vs h1 h2=>exact⟨_,_,by rw[hl]⟩
theorem PSt.imp{w W:World}{nb:Nat}{g:Hp}{x:Nat→Value}{Q Q':Prop}(s:PSt w W nb g x Q)(h:Q'→Q):PSt w W nb g x Q':=⟨s.res,s.now,s.rd,s.bel,s.nB,fun q=>s.own (h q)⟩
theorem PSt.place{w W W':World}{nb:Nat}{g:Hp}{x:Nat→Value}{Q:Prop}(s:PSt w W nb g x Q){l:List Int}{v:Value}(hz:W.heap.size≤W'.heap.size)(hk: ∀b,b<W.heap.size→b≠nb→W'.heap[b]? =W.heap[b]?)
  (hn:W'.heap[nb]? =some (.cells (nowA {g with high:=l} (fun j=>if j=1 then v else x j)) 25 (0,0))) (ho:W'.ownsRow W.heap.size 22 1 v l.length (nums .u64 l)) (hbel:Below w.heap.size w W'):PSt w W' nb {g with high:=l} (fun j=>if j=1 then v else x j) Q:=by
 have h0:=s.bel.size;have hnb:=s.nB
 have hls: ∀j,j<5→j≠1→lsH {g with high:=l} j=lsH g j:=fun j hj h1=>by
  have:j=0∨j=2∨j=3∨j=4:=by omega
  rcases this with rfl|rfl|rfl|rfl<;>rfl
 have h3:w.heap.size+3≤W.heap.size:=by have:=Za s.now;omega
 refine⟨(hk _ (Za s.res) (by omega)).trans s.res,hn,fun j hj=> ?_,hbel,hnb,fun q=>⟨⟨fun j hj=> ?_,fun i j hij hj c hc hc'=> ?_⟩,fun j hj c hc=> ?_⟩⟩
 ·by_cases h1:j=1
  ·subst h1;rw[if_pos rfl];exact Vc (k:= .u64) ho fun c h1 h2=>⟨by omega,h2,by have:=Za s.now;omega⟩
  ·rw[if_neg h1,hls j hj h1];exact((s.rd j hj).keep (fun b hb=>hk b hb.2.1 hb.2.2) fun _ q=>q).mono fun b q=>⟨q.1,by omega,q.2.2⟩
 ·by_cases h1:j=1
  ·subst h1;rw[if_pos rfl];exact Tf ho fun c h1 h2=>⟨by omega,h2⟩
  ·rw[if_neg h1,hls j hj h1];exact Ze ((s.own q).1.own j hj) fun c hc=>hk c (((s.own q).1.own j hj).lt c hc).2 ((s.own q).2 j hj c hc)
 ·by_cases h1:i=1
  ·subst h1;rw[if_pos rfl]at hc;rw[if_neg (by omega)]at hc';have:=(ho.lt c hc).1;have:=(((s.own q).1.own j hj).lt c hc').2;omega
  ·rw[if_neg h1]at hc;by_cases h2:j=1
   ·subst h2;rw[if_pos rfl]at hc';have:=(ho.lt c hc').1;have:=(((s.own q).1.own i (by omega)).lt c hc).2;omega
   ·rw[if_neg h2]at hc';exact(s.own q).1.apart i j hij hj c hc hc'
 ·by_cases h1:j=1
  ·subst h1;rw[if_pos rfl]at hc;have:=(ho.lt c hc).1;have:=Za s.now;omega
  ·rw[if_neg h1]at hc;exact(s.own q).2 j hj c hc
theorem Ka{W:World}{G:Nat→Prop}{B nb n K:Nat}{l h:List Int}{y:Value}(hB:B≤W.heap.size)(ho:W.ownsRow B 22 1 (.slice (some ⟨nb,0,none⟩) n K) n (nums .u64 l))(hy:Rd W G (.sl (h.map vu)) y)(hl:n+h.length≤2000000)(ty:TypeId):
  ∃a c w',(Builtin.append_ #[23,23] ty #[.slice (some ⟨nb,0,none⟩) n K,y]).run Try.prog W= .ok (.slice a (n+h.length) c) w'∧w'.ownsRow B 22 1 (.slice a (n+h.length) c) (l++h).length (nums .u64 (l++h))∧W.grownBy w' (some nb):=by
 have hT:=Try.underlying23;rw[←ceU]at ho;obtain⟨v',w',news,hr,h1,h2,_,_,h5⟩:=Xv (ty:=ty) hT elU ho hB hy (by rw[ceU];exact WQ _) (by simp only[lim,Z8P];omega);rw[ceU]at h1;have hln:l.length=n:=by have:=ho.1;rw[ceU]at this;simpa[nums]using this
 have hl6:news.length=h.length:=by have:=h1.1;simp[nums]at this;omega
 have h6:=Ub h5 hl6;obtain⟨a,c,e⟩:=Z3 h1;subst e;rw[h6]at h1;simp only[Z8P]at h1 hr;refine⟨a,c,w',hr,?_,h2⟩;rw[Z8W,hln];simpa[nums]using h1
theorem qF{m K:Nat}(hm:m≤K)(hK:K≤4096)(W:World):(Instr.makeSlice 23 (.int .i64 (m:Int)) (.int .i64 (K:Int))).run Try.prog W= .ok (.slice (some ⟨W.heap.size,0,none⟩) m K) (W.alloc (.cells (madeCells #[.int .u64 0] K) 22)):=by
 have hinfo:(Try.prog.info? 22).map (fun i=>(i.zero,i.size,i.bytes))=some (some (.int .u64 0),1,8):=by kernel_rfl
 obtain⟨i,hi,he⟩:=Z8p.1 hinfo;simp only[Z8w]at he;obtain⟨hz,hs,hb⟩:=he;have:=run_make (P:=Try.prog) (w:=W) 23 22 i (.int .u64 0) Try.underlying23 hi hz .i64 .i64 m K (by omega) (by omega) (by rw[hb];omega) (by omega);simpa[hs,Value.cells]using this
theorem Z1I{W:World}{B m K:Nat}(hB:B≤W.heap.size)(hm:m≤K)(hK:K≤4096):(W.alloc (.cells (madeCells #[.int .u64 0] K) 22)).ownsRow B 22 1 (.slice (some ⟨W.heap.size,0,none⟩) m K) m (nums .u64 (List.replicate m 0)):=by
 refine⟨by simp[nums],.inr ⟨_,K,_,rfl,hB,Z8C _ _,hm,by unfold maxLen;omega,by rw[size_madeCells];simp,?_⟩⟩;rw[toList_madeCells_one];simp[nums,List.take_replicate,Zbm hm]
theorem Z0G{g:Hp}{wd:Int}{n m:Nat}(hl:Z8 (layH g)=true)(hm:n+1=m)(hb:(g.low.length:Int)+g.high.length+m≤g.cap):Z8 (layH (Yu g wd n))=true:=by
 obtain⟨h1,h2,h3,h4,h5,⟨h6,h7,h8,h9⟩,h10⟩:=Zm.1 hl;refine Zm.2 ⟨h1,h2,h3,h4,h5,⟨h6,?_,h8,?_⟩,h10⟩
 ·show(0:Int)≤(((wd::List.replicate n 0)++g.high).length:Nat);omega
 ·show((((wd::List.replicate n 0)++g.high).length:Nat):Int)≤g.cap-g.low.length;simp;omega
theorem jU{g:Hp}{wd:Int}{n:Nat}(hg:g.ok)(hw:U64 wd)(hb:n+1+g.high.length≤1000000):(Yu g wd n).ok:=by
 refine⟨hg.base,hg.cap,hg.to,hg.scan,hg.low,?_,hg.old,hg.far,hg.roots,hg.lowW,fun x hx=> ?_,hg.oldW,hg.farW,hg.rootsW⟩
 ·simp[Yu];omega
 ·simp only[Yu,Z9s,Z8V,Z90,ZbC]at hx;rcases hx with rfl| ⟨_,rfl⟩ |hx
  ·exact hw
  ·unfold U64;omega
  ·exact hg.highW x hx
theorem jm{g:Hp}{wd:Int}{n:Nat}(hl:Z8 (layH (Yu g wd n))=true):ZC (layH (Yu g wd n)) 2 0=(fstL (layH (Yu g wd n)) 2,0)∧U64 (fstL (layH (Yu g wd n)) 2)∧YO (fstL (layH (Yu g wd n)) 2)=(refR (layH (Yu g wd n)) 2 0,0):=by
 have hs:sizL (layH (Yu g wd n)) 2=(n+1+g.high.length:Nat):=by
  show((((wd::List.replicate n 0)++g.high).length:Nat):Int)=_;simp;omega
 obtain⟨r1,r2,r3,r4⟩:=Zv hl 2;refine⟨?_,⟨by omega,by omega⟩,?_⟩
 ·have:=U7 hl (k:=2) (a:=0) (by omega) (by omega);simpa using this
 ·unfold YO refR;rw[if_neg (by omega),Int.add_zero]
theorem jl{w W:World}{nb:Nat}{g:Hp}{x:Nat→Value}{Q:Prop}(s:PSt w W nb g x Q)(v:Int)(v0 v1 v2 v3 v4 v5 v6 v7 v8 v9:Value):Q5 w (v,g,0) Q (.returned (.tuple #[.int .u64 v,hpA g x,.int .i64 0])) ((((((((((W.setCell ⟨w.heap.size+1+1,0,none⟩ v0).setCell ⟨w.heap.size+1+1,1,none⟩ v1).setCell ⟨w.heap.size+1+1,2,none⟩ v2).setCell ⟨w.heap.size+1+1,3,none⟩ v3).setCell ⟨w.heap.size+1+1,4,none⟩ v4).setCell ⟨w.heap.size+1+1,5,none⟩ v5).setCell ⟨w.heap.size+1+1,6,none⟩ v6).setCell ⟨w.heap.size+1+1,7,none⟩ v7).setCell ⟨w.heap.size+1+1,8,none⟩ v8).setCell ⟨w.heap.size+1+1,9,none⟩ v9).drew:=by
 have hs:=Vz W (w.heap.size+1+1) v0 v1 v2 v3 v4 v5 v6 v7 v8 v9;have ho: ∀c,c≠w.heap.size+1+1→_:=fun c hc=>XV (w2:=W) (b:=w.heap.size+1+1) hc v0 v1 v2 v3 v4 v5 v6 v7 v8 v9;unfold WP at hs;refine⟨x,rfl,(Zh s.bel (by omega) _ _ _ _ _ _ _ _ _ _).drew,fun j hj=>((s.rd j hj).keep (fun b hb=>ho b (by omega)) fun _ q=>q).mono fun b q=>⟨by omega,?_⟩,fun q=>⟨fun j hj=>Tf (Ze ((s.own q).1.own j hj) fun c hc=>ho c ?_) fun c h1 h2=>⟨by omega,h2⟩,(s.own q).1.apart⟩⟩
 ·rw[Rv,hs];exact q.2.1
 ·have:=(((s.own q).1.own j hj).lt c hc).1;omega
theorem Z2s(w:World)(G:Nat→Prop)(hG: ∀b,G b→b<w.heap.size)(h:Hp)(hh:h.ok)(src:Nat→Value)(hs: ∀j,j<5→Rd w G (.sl ((lsH h j).map vu)) (src j))(n m:Nat)(pt wd:Int)(hn:n≤255)(hm:n+1=m)(hpk:Xd n pt=(wd,0)){p q p8:Pts}(r:Rt h p){g h8:Hp}(hg:g.ok)(rg:Rt g q)(ok8:h8.ok)(r8:Rt h8 p8)
  (hd:(h.cycle=true∧h8=h)∨(h.cycle=false∧X9 h p m=true∧h8=h)∨(h.cycle=false∧X9 h p m=false∧h8=Y3 h)) (hgg:g=ZG h8 m)
  {res:Int×Hp×Int} (hres:res=if X9 g q m then(refR (layH (Yu g wd n)) 2 0,Yu g wd n,0)else(0,Hp.zero,7)) {Q:Prop} (hQ:Q→h.cycle=false∧X9 h p m=true):
  Calls Try.prog 32 #[hpA h src,.agg #[.int .i64 (n:Nat),.int .i64 pt]] w (Q5 w res Q):=by
 have HS:=Z8r hs;have HH:=Z8r hh;have hm1:1≤m∧m≤256:=by omega
 have HD:=Z8r hd;have HRES:=Z8r hres;have HQ:=Z8r hQ
 have HR: ∀W,Below w.heap.size w W→Calls Try.prog 33 #[hpA h src] W fun e w'=>e= .returned (.bool (ZD h))∧Below W.heap.size W w':=fun W hb=>
  YD (w:=W) (G:=G) (x:=src) hh (fun b hb'=>Z8z (hG b hb') hb.size) (fun j hj=>(hs j hj).keep (fun b hb'=>hb.block b (hG b hb')) fun _ q=>q)
 rw[r.right]at HR;have HPK:=Z8r (yU (s:=(n:Int)) (p:=pt));have HRT:=Z8r HR;have wn:IntKind.i64.wrap ((n:Int)+1)=(m:Int):=by rw[Z1 _ (by omega) (by omega)];omega
 have HN:=Z8r (And.intro hm hgg);obtain⟨W0,hW0,hz0,st0⟩:=zY w (.cells (nowA h src) 25) (.cells #[.int .i64 (n:Nat),.int .i64 pt] 47);have ST0:=Z8r st0;have HW0:=Z8r hW0;obtain⟨p0,s0,_,_⟩:=st0.F;unfold nowA at hW0 p0;clear hs HR hd hres hQ st0 hgg;unfold hpA;go_enter Try.func32,Try.ntmps32
 go_upto_region 6 with (first
  | (go_at_call 47;go_loud (refine(HPK.out W0).mono ?_;rintro e w1 ⟨rfl,hb1⟩;rw[hpk];dsimp only;have st1:=ST0.out.below hb1;have hz1:=hb1.size;obtain⟨p1,s1,_,_⟩:=st1.F;unfold nowA at p1;have ST1:=Z8r st1;clear hb1 st1 hW0 HPK p0 s0))
  | (go_at_call 33;go_loud (refine(HRT.out _ ST1.out.bel).mono ?_;rintro e w2 ⟨rfl,hb2⟩;have st2:=ST1.out.below hb2;have hz2:=hb2.size;obtain⟨p2,s2,_,_⟩:=st2.F;unfold nowA at p2;have ST2:=Z8r st2;clear hb2 st2 p1 s1))
  | (go_at_call 48;go_loud (refine(WK _ G (fun b hb=>by have:=hG b hb;omega) h HH.out src (fun j hj=>(HS.out j hj).keep (fun b hb=>ST2.out.bel.block b (hG b hb)) (fun _ h=>h))).mono ?_;rintro e w5 ⟨y,rfl,hb5,ho5⟩;obtain⟨a0,q0,e0⟩:=Z3 (ho5.own 0 (by omega));obtain⟨a1,q1,e1⟩:=Z3 (ho5.own 1 (by omega));obtain⟨a2,q2,e2⟩:=Z3 (ho5.own 2 (by omega));obtain⟨a3,q3,e3⟩:=Z3 (ho5.own 3 (by omega));obtain⟨a4,q4,e4⟩:=Z3 (ho5.own 4 (by omega));have HB5:=Z8r (And.intro hb5 ho5);clear hb5 ho5;unfold hpA;rw[e0,e1,e2,e3,e4])))
 obtain⟨W6,hW6⟩: ∃W6,w5.alloc (.cells #[.int .u64 h.base,.int .i64 h.cap,.int .i64 h.to,.bool h.cycle,.int .i64 h.scan,.slice a0 (lsH h 0).length q0,.slice a1 (lsH h 1).length q1,.slice a2 (lsH h 2).length q2,.slice a3 (lsH h 3).length q3,.slice a4 (lsH h 4).length q4] 25)=W6:=⟨_,rfl⟩;have st6:PSt w W6 w5.heap.size h y True:=Z5i ST2.out (by omega) HB5.out.1 HB5.out.2 (by unfold nowA;rw[e0,e1,e2,e3,e4];exact hW6);rw[hW6];obtain⟨y6,f6⟩:=st6.F;rw[e0,e1,e2,e3,e4]at y6;have CUR:=Z8r st6
 have hRM: ∀W,Below W6.heap.size W6 W→Calls Try.prog 49 #[.agg #[.int .u64 h.base,.int .i64 h.cap,.int .i64 h.to,.bool h.cycle,.int .i64 h.scan,.slice a0 (lsH h 0).length q0,.slice a1 (lsH h 1).length q1,.slice a2 (lsH h 2).length q2,.slice a3 (lsH h 3).length q3,.slice a4 (lsH h 4).length q4],.int .i64 (m:Nat)] W fun e w'=>e= .returned (.bool (X9 h p m))∧Below W.heap.size W w':=fun W hb=>by
  have:=RX hh r (n:=(m:Int)) (by omega) (W:=W) (fun b hb'=>hb'.2.1) (st6.below hb).rd;unfold hpA at this;rw[e0,e1,e2,e3,e4]at this;exact this
 have HRM:=Z8r hRM;have E:=Z8r (And.intro e0 (And.intro e1 (And.intro e2 (And.intro e3 e4))));clear st6 hRM p2 s2 hW6 e0 e1 e2 e3 e4 wn;have hR8: ∀(W2:World) (x2:Nat→Value) (W7:World),PSt w W7 w5.heap.size h y True→Below W7.heap.size W7 W2→(∀j,j<5→Rd W2 (fun c=>(w.heap.size+3≤c∧c<W7.heap.size∧c≠w5.heap.size)∨(W7.heap.size≤c∧c<W2.heap.size)) (.sl ((lsH (Y3 h) j).map vu)) (x2 j))→PSt w (WP W2 w5.heap.size (.int .u64 (Y3 h).base) (.int .i64 (Y3 h).cap) (.int .i64 (Y3 h).to) (.bool (Y3 h).cycle) (.int .i64 (Y3 h).scan) (x2 0) (x2 1) (x2 2) (x2 3) (x2 4)) w5.heap.size (Y3 h) x2 False:=fun W2 x2 W7 s hb hr=>s.store hb hr;have HR8:=Z8r hR8;clear hR8;rcases HD.out with ⟨hc,rfl⟩ | ⟨hc,hr1,rfl⟩ | ⟨hc,hr1,rfl⟩
 all_goals have HC:=Z8r hc
 case' inl=>
  go_upto_region 10 with fail;have CUR8:=Z8r (CUR.out.imp (Q':=Q) fun q=>trivial);have E8:=Z8r E.out
 case' inr.inl=>
  have HRM:=HRM.out;rw[hc]at HRM;have HRM:=Z8r HRM
  go_upto_region 10 with (first
   | (go_at_call 49;go_loud (refine(HRM.out _ (Z8E _ _)).mono ?_;rintro e w7 ⟨rfl,hb7⟩;rw[hr1];have st7:=CUR.out.below hb7;obtain⟨y7,f7⟩:=st7.F;rw[E.out.1,E.out.2.1,E.out.2.2.1,E.out.2.2.2.1,E.out.2.2.2.2]at y7;have CUR8:=Z8r (st7.imp (Q':=Q) fun q=>trivial);clear hb7 st7)))
  have E8:=Z8r E.out
 case' inr.inr=>
  have HRM:=HRM.out;rw[hc]at HRM;have HRM:=Z8r HRM
  go_upto_region 10 with (first
   | (go_at_call 49;go_loud (refine(HRM.out _ (Z8E _ _)).mono ?_;rintro e w7 ⟨rfl,hb7⟩;rw[hr1];have st7:=CUR.out.below hb7;obtain⟨y7,f7⟩:=st7.F;rw[E.out.1,E.out.2.1,E.out.2.2.1,E.out.2.2.2.1,E.out.2.2.2.2]at y7;have ST7:=Z8r st7;clear hb7 st7))
   | (go_at_call 17;go_loud (have hfl:=jn w7 _ (fun b hb'=>hb'.2.1) h HH.out y ST7.out.rd;unfold hpA at hfl;rw[hc,E.out.1,E.out.2.1,E.out.2.2.1,E.out.2.2.2.1,E.out.2.2.2.2,show QJ h=(Y3 h,0)by unfold QJ;rw[if_neg (by rw[r.right];simp),if_neg (by rw[HC.out];simp)]]at hfl;refine hfl.mono ?_;clear hfl;rintro e w8 ⟨x8,rfl,hb8,hr8⟩;obtain⟨v8,g8⟩:=(ST7.out.below hb8).F;rw[E.out.1,E.out.2.1,E.out.2.2.1,E.out.2.2.2.1,E.out.2.2.2.2]at v8;have st8:=HR8.out w8 x8 w7 ST7.out hb8 (fun j hj=>(hr8 j hj).mono fun b q=> .inr q);obtain⟨b0,k0,f0⟩:=ZI (hr8 0 (by omega));obtain⟨b1,k1,f1⟩:=ZI (hr8 1 (by omega));obtain⟨b2,k2,f2⟩:=ZI (hr8 2 (by omega));obtain⟨b3,k3,f3⟩:=ZI (hr8 3 (by omega));obtain⟨b4,k4,f4⟩:=ZI (hr8 4 (by omega));unfold hpA;rw[f0,f1,f2,f3,f4];have z8:=st8.F.1;unfold WP at z8;rw[f0,f1,f2,f3,f4]at z8;have ST8:=Z8r st8;have E8:=Z8r (And.intro f0 (And.intro f1 (And.intro f2 (And.intro f3 f4))));clear hb8 hr8 st8 f0 f1 f2 f3 f4)))
 case' inl=>
  obtain⟨W8,rfl⟩: ∃W8,W8=W6:=⟨_,rfl⟩;have HC8:=HC;have hc8:=hc;clear y6
 case' inr.inl=>
  obtain⟨W8,rfl⟩: ∃W8,W8=w7:=⟨_,rfl⟩;have HC8:=HC;have hc8:=hc;clear y6 y7
 case' inr.inr=>
  obtain⟨W8,hW8⟩: ∃W8,WP w8 w5.heap.size (.int .u64 (Y3 h).base) (.int .i64 (Y3 h).cap) (.int .i64 (Y3 h).to) (.bool (Y3 h).cycle) (.int .i64 (Y3 h).scan) (.slice b0 (lsH (Y3 h) 0).length k0) (.slice b1 (lsH (Y3 h) 1).length k1) (.slice b2 (lsH (Y3 h) 2).length k2) (.slice b3 (lsH (Y3 h) 3).length k3) (.slice b4 (lsH (Y3 h) 4).length k4)=W8:=⟨_,rfl⟩;have st8:=ST8.out;rw[E8.out.1,E8.out.2.1,E8.out.2.2.1,E8.out.2.2.2.1,E8.out.2.2.2.2,hW8]at st8;have CUR8:=Z8r (st8.imp (Q':=Q) fun q=>by have:=(HQ.out q).2;rw[hr1]at this;cases this);unfold WP at hW8;rw[hW8];clear y6 y7 z8 hW8 st8 v8 g8;cases hc8:(Y3 h).cycle
  all_goals have HC8:=Z8r hc8
 all_goals
  obtain⟨y8,f8⟩:=CUR8.out.F;rw[E8.out.1,E8.out.2.1,E8.out.2.2.1,E8.out.2.2.2.1,E8.out.2.2.2.2]at y8
  first
  | (have hqn:=Z0C (yK Z0o ok8 (k:=(m:Int)) ⟨by omega,by omega⟩) (fun b hb'=>hb'.2.1) CUR8.out.rd
     rw[jT r8,←HN.out.2]at hqn;unfold hpA at hqn;rw[E8.out.1,E8.out.2.1,E8.out.2.2.1,E8.out.2.2.2.1,E8.out.2.2.2.2,show _=true from HC8.out]at hqn
     go_upto_region 14 with (first
      | (go_at_call 29;go_loud (refine hqn.mono ?_;clear hqn;rintro e w9 ⟨x9,rfl,hb9,hr9⟩;obtain⟨v9,g9⟩:=(CUR8.out.below hb9).F;rw[E8.out.1,E8.out.2.1,E8.out.2.2.1,E8.out.2.2.2.1,E8.out.2.2.2.2]at v9;have st9:=CUR8.out.store hb9 hr9;obtain⟨b0,k0,f0⟩:=ZI (hr9 0 (by omega));obtain⟨b1,k1,f1⟩:=ZI (hr9 1 (by omega));obtain⟨b2,k2,f2⟩:=ZI (hr9 2 (by omega));obtain⟨b3,k3,f3⟩:=ZI (hr9 3 (by omega));obtain⟨b4,k4,f4⟩:=ZI (hr9 4 (by omega));unfold hpA;rw[f0,f1,f2,f3,f4];rw[f0,f1,f2,f3,f4]at st9;have ST9:=Z8r st9;clear hb9 hr9 st9 f0 f1 f2 f3 f4))))
  |go_upto_region 14 with fail
 all_goals
  first
  | (obtain⟨W9,hW9⟩: ∃W9,WP w9 w5.heap.size (.int .u64 g.base) (.int .i64 g.cap) (.int .i64 g.to) (.bool g.cycle) (.int .i64 g.scan) (.slice b0 (lsH g 0).length k0) (.slice b1 (lsH g 1).length k1) (.slice b2 (lsH g 2).length k2) (.slice b3 (lsH g 3).length k3) (.slice b4 (lsH g 4).length k4)=W9:=⟨_,rfl⟩
     have st9:=ST9.out;rw[hW9]at st9;have CUR9:=Z8r (st9.imp (Q':=Q) fun q=>by have h1:=(HQ.out q).1;have h2:=(HQ.out q).2;first| (rw[HC.out]at h1;cases h1;done) | (rw[hr1]at h2;cases h2;done));unfold WP at hW9;rw[hW9];clear y8 v9 g9 hW9 st9 ST9)
  | (obtain⟨W9,rfl⟩: ∃W9,W9=W8:=⟨_,rfl⟩
     have hge:=HN.out.2.trans (Xs HC8.out m);have cur9:=CUR8.out;rw[←hge]at cur9;have CUR9:=Z8r cur9;clear y8 cur9 hge)
 all_goals
  clear CUR8 E8 CUR E HC8 HC hc8 hc;obtain⟨x9,cur9⟩: ∃x9,PSt w W9 w5.heap.size g x9 Q:=⟨_,CUR9.out⟩;obtain⟨c0,d0,e0⟩:=ZI (cur9.rd 0 (by omega));obtain⟨c1,d1,e1⟩:=ZI (cur9.rd 1 (by omega));obtain⟨c2,d2,e2⟩:=ZI (cur9.rd 2 (by omega));obtain⟨c3,d3,e3⟩:=ZI (cur9.rd 3 (by omega));obtain⟨c4,d4,e4⟩:=ZI (cur9.rd 4 (by omega));obtain⟨y9,fz9⟩:=cur9.F;rw[e0,e1,e2,e3,e4]at y9;have hrm:=RX hg rg (n:=(m:Int)) (by omega) (W:=W9) (fun b hb'=>hb'.2.1) cur9.rd;unfold hpA at hrm;rw[e0,e1,e2,e3,e4]at hrm;have E:=Z8r (And.intro e0 (And.intro e1 (And.intro e2 (And.intro e3 e4))));have CUR:=Z8r cur9;clear CUR9 cur9 e0 e1 e2 e3 e4;cases hrg:X9 g q m
  case false=>
   have hre:res=(0,Hp.zero,7):=by rw[HRES.out,hrg];rfl
   rw[hrg]at hrm;subst hre
   go_wp2_with (first
    | (go_at_call 49;go_loud (refine hrm.mono ?_;clear hrm;rintro e w10 ⟨rfl,hb10⟩;have st10:=CUR.out.below hb10;obtain⟨r10,rz10⟩:=st10.R;have CUR10:=Z8r st10;clear hb10 st10)))
   have z13:=Zj CUR10.out.res (.int .u64 0) (.int .i64 0) (.int .i64 0) (.bool false) (.int .i64 0) (.slice none 0 0) (.slice none 0 0) (.slice none 0 0) (.slice none 0 0) (.slice none 0 0);refine Z8K (v:= .tuple #[.int .u64 0,.agg Zf,.int .i64 7]) ?_ rfl ?_
   ·simp[results,Try.results32,go_sem,z13,Zf]
   ·exact⟨fun _=> .slice none 0 0,rfl,Zh CUR10.out.bel (by omega) _ _ _ _ _ _ _ _ _ _,UU _ _,fun _=>WN _ _⟩
  case true=>
   have hl1:(lsH g 1).length=g.high.length:=rfl;have hbd:(g.low.length:Int)+g.high.length+Yi q+m≤g.cap:=by simpa[X9]using hrg
   have hcap:=rg.capL;obtain⟨K,hK⟩: ∃K,m+(lsH g 1).length=K:=⟨_,rfl⟩;have hKb:K≤4096:=by omega
   have wk:IntKind.i64.wrap ((m:Int)+((lsH g 1).length:Int))=(K:Int):=by rw[Z1 _ (by omega) (by omega)];omega
   have hmk:=qF (m:=m) (K:=K) (by omega) (by omega);have hm0:((0:Int) < (m:Int))=True:=ZaJ (by omega);have HB:=Z8r (And.intro hbd (And.intro hcap (And.intro hK hKb)));rw[hrg]at hrm;clear hbd hcap hK hKb hl1
   go_upto_region 17 with (first
    | (go_at_call 49;go_loud (refine hrm.mono ?_;clear hrm;rintro e w10 ⟨rfl,hb10⟩;have st10:=CUR.out.below hb10;obtain⟨y10,fz10⟩:=st10.F;rw[E.out.1,E.out.2.1,E.out.2.2.1,E.out.2.2.2.1,E.out.2.2.2.2]at y10;have CUR10:=Z8r st10;clear hb10 st10 y9 fz9)))
   obtain⟨W11,hW11⟩: ∃W11,w10.alloc (.cells (madeCells #[.int .u64 0] K) 22)=W11:=⟨_,rfl⟩;rw[hW11];have ho11:W11.ownsRow w10.heap.size 22 1 (.slice (some ⟨w10.heap.size,0,none⟩) m K) m (nums .u64 (List.replicate m 0)):=by rw[←hW11];exact Z1I (Z8v _) (by have:=HB.out.2.2.1;omega) HB.out.2.2.2
   have hz11:W11.heap.size=w10.heap.size+1:=by rw[←hW11];simp
   have hk11: ∀b,b<w10.heap.size→W11.heap[b]? =w10.heap[b]? :=fun b hb=>by rw[←hW11];exact Z8t _ _ _ hb
   have hc11:W11.cell? ⟨w10.heap.size,0,none⟩=some (.int .u64 0):=by rw[ho11.cellAt 0 (by omega)];simp[nums,show 0<m by omega]
   have hf11:=Sv ho11 (i:=0) (by omega);have ho12:=(ho11.stored 0 (.int .u64 wd)).1;have hb11:Below w.heap.size w W11:=by rw[←hW11];exact CUR10.out.bel.alloc CUR10.out.bel.size _
   have HO:=Z8r (And.intro ho12 (And.intro hz11 (And.intro hk11 hb11)));clear ho11 ho12 hk11 hb11 hW11 y10 fz10 hmk wk hz11;go_upto_region 18 with fail;obtain⟨W12,hW12⟩: ∃W12,W11.setCell ⟨w10.heap.size,0,none⟩ (.int .u64 wd)=W12:=⟨_,rfl⟩;rw[hW12];have hz12:W12.heap.size=w10.heap.size+1:=by rw[←hW12];simpa[World.setCell]using HO.out.2.1
   have hk12: ∀b,b<w10.heap.size→W12.heap[b]? =w10.heap[b]? :=fun b hb=>by rw[←hW12];exact(Z8I _ _ _ _ (by show b≠w10.heap.size;omega)).trans (HO.out.2.2.1 b hb)
   have hb12:Below w.heap.size w W12:=by rw[←hW12];exact HO.out.2.2.2.setCell (by have:=CUR10.out.bel.size;exact this) _
   have hnb:=Za CUR10.out.now;have n12:=(hk12 _ hnb).trans CUR10.out.now;unfold nowA at n12;rw[E.out.1,E.out.2.1,E.out.2.2.1,E.out.2.2.2.1,E.out.2.2.2.2]at n12;have y12: ∀j,W12.cell? ⟨w5.heap.size,j,none⟩=(#[.int .u64 g.base,.int .i64 g.cap,.int .i64 g.to,.bool g.cycle,.int .i64 g.scan,.slice c0 (lsH g 0).length d0,.slice c1 (lsH g 1).length d1,.slice c2 (lsH g 2).length d2,.slice c3 (lsH g 3).length d3,.slice c4 (lsH g 4).length d4]:Array Value)[j]? :=fun j=>Z8s _ _ _ _ _ _ n12
   have hr12:Rd W12 (fun c=>w.heap.size+3≤c∧c<w10.heap.size∧c≠w5.heap.size) (.sl (g.high.map vu)) (.slice c1 (lsH g 1).length d1):=by
    have:=CUR10.out.rd 1 (by omega);rw[E.out.2.1]at this;exact this.keep (fun b hb=>hk12 b hb.2.1) fun _ q=>q
   have ho12:W12.ownsRow w10.heap.size 22 1 (.slice (some ⟨w10.heap.size,0,none⟩) m K) m (nums .u64 (wd::List.replicate n 0)):=by
    have:=HO.out.1;rw[hW12,←Vp]at this;rw[show wd::List.replicate n 0=(List.replicate m 0).set 0 wd by rw[←hm,List.replicate_succ];rfl];exact this
   obtain⟨a13,q13,w13,hap,ho13,hg13⟩:=Ka (by omega) ho12 hr12 (by have:=HB.out;have:(lsH g 1).length=g.high.length:=rfl;omega) 23;obtain⟨gp,hgp⟩: ∃gp,Yu g wd n=gp:=⟨_,rfl⟩;obtain⟨x14,hx⟩: ∃x14:Nat→Value,(fun j=>if j=1 then .slice a13 (m+g.high.length) q13 else x9 j)=x14:=⟨_,rfl⟩;have n13:=(hg13.block _ (by omega) (by simp;omega)).trans n12;have y13: ∀j,w13.cell? ⟨w5.heap.size,j,none⟩=(#[.int .u64 g.base,.int .i64 g.cap,.int .i64 g.to,.bool g.cycle,.int .i64 g.scan,.slice c0 (lsH g 0).length d0,.slice c1 (lsH g 1).length d1,.slice c2 (lsH g 2).length d2,.slice c3 (lsH g 3).length d3,.slice c4 (lsH g 4).length d4]:Array Value)[j]? :=fun j=>Z8s _ _ _ _ _ _ n13;have f13: ∀j,w13.frozen? ⟨w5.heap.size,j,none⟩=false:=fun j=>Zk n13;obtain⟨W14,hW14⟩: ∃W14,w13.setCell ⟨w5.heap.size,6,none⟩ (.slice a13 (m+g.high.length) q13)=W14:=⟨_,rfl⟩;have hx0:x14 0= .slice c0 (lsH g 0).length d0:=by rw[←hx];exact E.out.1
   have hx1:x14 1= .slice a13 (m+g.high.length) q13:=by rw[←hx];rfl
   have hx2:x14 2= .slice c2 (lsH g 2).length d2:=by rw[←hx];exact E.out.2.2.1
   have hx3:x14 3= .slice c3 (lsH g 3).length d3:=by rw[←hx];exact E.out.2.2.2.1
   have hx4:x14 4= .slice c4 (lsH g 4).length d4:=by rw[←hx];exact E.out.2.2.2.2
   have hz13:=hg13.size
   have st14:PSt w W14 w5.heap.size gp x14 Q:=by
    have:=CUR10.out.place (W':=W14) (l:=(wd::List.replicate n 0)++g.high) (v:= .slice a13 (m+g.high.length) q13) ?_ ?_ ?_ ?_ ?_
    ·rw[←hgp,←hx];exact this
    ·rw[←hW14];simp[World.setCell];omega
    ·intro b hb hbn;rw[←hW14];exact(Z8I _ _ _ _ hbn).trans ((hg13.block _ (by omega) (by simp;omega)).trans (hk12 b hb))
    ·rw[←hW14];unfold nowA;have e0:=E.out.1;have e2:=E.out.2.2.1;have e3:=E.out.2.2.2.1;have e4:=E.out.2.2.2.2;simp[World.setCell,Z8R,n13,e0,e2,e3,e4]
    ·rw[←hW14];refine Ze ho13 fun b hb=>Z8I _ _ _ _ ?_;have:=(ho13.lt b hb).1;show b≠w5.heap.size;omega
    ·rw[←hW14];exact(Below.grown hb12 hg13 hb12.size (fun r hr=>by cases hr;have:=CUR10.out.bel.size;omega)).setCell (by show w.heap.size≤w5.heap.size;have:=CUR10.out.nB;omega) _
   go_upto_region 19 with (at_builtin;refine Lib.wpList_append_run _ rfl _ _ 23 23 rfl _ _ rfl rfl _ _ hap ?_);have hbd:(g.low.length:Int)+g.high.length+m≤g.cap:=by have:=HB.out.1;omega
   have hgl:Z8 (layH gp)=true:=by rw[←hgp];exact Z0G rg.lay hm hbd
   have hu:U64 wd:=by
    have:=SE n pt;rw[hpk]at this;unfold U64;dsimp only at this;omega
   have gok:gp.ok:=by rw[←hgp];exact jU hg hu (by have:=HB.out;have:(lsH g 1).length=g.high.length:=rfl;omega)
   have hpr:ZC (layH gp) 2 0=(fstL (layH gp) 2,0)∧U64 (fstL (layH gp) 2)∧YO (fstL (layH gp) 2)=(refR (layH gp) 2 0,0):=by
    have:=jm (g:=g) (wd:=wd) (n:=n) (by rw[hgp];exact hgl);rw[hgp]at this;exact this
   obtain⟨y14,fz14⟩:=st14.F;rw[hx0,hx1,hx2,hx3,hx4]at y14;have hla:=ZP (w:=W14) (fun b hb=>hb.2.1) st14.rd;unfold hpA at hla;rw[hx0,hx1,hx2,hx3,hx4]at hla;have ST14:=Z8r st14;have HX:=Z8r (And.intro hx0 (And.intro hx1 (And.intro hx2 (And.intro hx3 hx4))));have HP:=Z8r (And.intro hpr gok);clear n12 y12 hr12 ho12 hap ho13 hg13 n13 y13 f13 hW14 st14 hx0 hx1 hx2 hx3 hx4 hpr hz13 hW12 hk12 hb12 hz12 hc11 hf11 hx
   go_upto_region 25 with (first
    | (go_at_call 51;go_loud (refine hla.mono ?_;clear hla;rintro e w15 ⟨rfl,hb15⟩;unfold lyA;have HB15:=Z8r hb15;clear hb15))
    | (go_at_call 50;go_loud (refine(R5 HP.out.2.lay 2 0 w15).mono ?_;rintro e w16 ⟨rfl,hb16⟩;rw[HP.out.1.1];dsimp only;have HB16:=Z8r hb16;clear hb16))
    | (go_at_call 52;go_loud (refine(Sq HP.out.1.2.1 w16).mono ?_;rintro e w17 ⟨rfl,hb17⟩;rw[HP.out.1.2.2];dsimp only;have st17:=((ST14.out.below HB15.out).below HB16.out).below hb17;obtain⟨y17,fz17⟩:=st17.F;rw[HX.out.1,HX.out.2.1,HX.out.2.2.1,HX.out.2.2.2.1,HX.out.2.2.2.2]at y17;obtain⟨r17,rz17⟩:=st17.R;have ST17:=Z8r st17;clear hb17 st17 y14 fz14)))
   have hre:res=(refR (layH gp) 2 0,gp,0):=by rw[HRES.out,hrg,hgp];rfl
   subst hre;go_region
   all_goals
    go_wp2
    try simp only[Exit.inBlock,Exit.then]
    have z:=Zj ST17.out.res (.int .u64 gp.base) (.int .i64 gp.cap) (.int .i64 gp.to) (.bool gp.cycle) (.int .i64 gp.scan) (.slice c0 (lsH g 0).length d0) (.slice a13 (m+g.high.length) q13) (.slice c2 (lsH g 2).length d2) (.slice c3 (lsH g 3).length d3) (.slice c4 (lsH g 4).length d4);refine Z8K (v:= .tuple #[.int .u64 (refR (layH gp) 2 0),hpA gp x14,.int .i64 0]) ?_ rfl ?_
    ·unfold hpA;rw[HX.out.1,HX.out.2.1,HX.out.2.2.1,HX.out.2.2.2.1,HX.out.2.2.2.2];simp[results,Try.results32,go_sem,z]
    ·exact jl ST17.out _ _ _ _ _ _ _ _ _ _ _
end Vm
end
section
namespace Vm
open Go Go.Proofs
set_option maxRecDepth 100000
set_option maxHeartbeats 1000000
theorem zG{h:Hp}(hh:h.ok)(ht:h.to=0∨h.to=1):(Y3 h).ok:=by
 have:=Qe hh ht h.roots.length;unfold Y3 Qm;obtain⟨a1,a2,a3,a4,a5,a6,a7,a8,a9,b1,b2,b3,b4,b5⟩:=this;split
 ·exact⟨a1,a2,a3,a4,a5,a6,a7,a8,a9,b1,b2,b3,b4,b5⟩
 ·exact⟨a1,a2,a3,a4,a5,a6,Z9n _,Z9n _,a9,b1,b2,fun w hw=>(by cases hw),fun w hw=>(by cases hw),b5⟩
end Vm
end
section
namespace Vm
open Go Go.Proofs Go.RowKit
set_option maxHeartbeats 2000000
set_option maxRecDepth 100000
def Y5(h:Hp)(p:Pts)(n:Nat):Hp:=ZG (if h.cycle=false∧X9 h p (n+1:Nat)=false then Y3 h else h) (n+1)
def Wc(h:Hp)(p q:Pts)(n:Nat)(wd:Int):Int×Hp×Int:=if X9 (Y5 h p n) q (n+1:Nat)then(refR (layH (Yu (Y5 h p n) wd n)) 2 0,Yu (Y5 h p n) wd n,0)else(0,Hp.zero,7)
theorem qX{h:Hp}{p:Pts}(r:Rt h p)(hc:h.cycle=false): ∃q,Rt (Y3 h) q:=by
 obtain⟨g,q,_,e,r',_⟩:=Z1H r hc;exact⟨_,by rw[e];exact r'⟩
theorem ST(w:World)(G:Nat→Prop)(hG: ∀b,G b→b<w.heap.size)(h:Hp)(hh:h.ok)(src:Nat→Value)(hs: ∀j,j<5→Rd w G (.sl ((lsH h j).map vu)) (src j))(n:Nat)(pt wd:Int)(hn:n≤255)(hpk:Xd n pt=(wd,0)){p:Pts}(r:Rt h p):
  ∃q,Rt (Y5 h p n) q∧(Y5 h p n).ok∧Calls Try.prog 32 #[hpA h src,.agg #[.int .i64 (n:Nat),.int .i64 pt]] w (Q5 w (Wc h p q n wd) (h.cycle=false∧X9 h p (n+1:Nat)=true)):=by
 have key: ∀h8 p8,h8.ok→Rt h8 p8→(if h.cycle=false∧X9 h p (n+1:Nat)=false then Y3 h else h)=h8→((h.cycle=true∧h8=h)∨(h.cycle=false∧X9 h p (n+1:Nat)=true∧h8=h)∨(h.cycle=false∧X9 h p (n+1:Nat)=false∧h8=Y3 h))→ ∃q,Rt (Y5 h p n) q∧(Y5 h p n).ok∧Calls Try.prog 32 #[hpA h src,.agg #[.int .i64 (n:Nat),.int .i64 pt]] w (Q5 w (Wc h p q n wd) (h.cycle=false∧X9 h p (n+1:Nat)=true)):=by
  intro h8 p8 ok8 r8 e hd;obtain⟨q,sc⟩:=r8.scans (n+1);have hg:Y5 h p n=ZG h8 (n+1):=by unfold Y5;rw[e]
  have hok:(Y5 h p n).ok:=by rw[hg];exact WD ok8 r8 _
  have hrt:Rt (Y5 h p n) q:=by rw[hg];exact sc.rt
  exact⟨q,hrt,hok,Z2s w G hG h hh src hs n (n+1) pt wd hn rfl hpk r hok hrt ok8 r8 hd hg rfl (fun q=>q)⟩
 by_cases hc:h.cycle=true
 ·exact key h p hh r (by rw[hc];simp) (.inl ⟨hc,rfl⟩)
 have hc:h.cycle=false:=by simpa using hc
 by_cases hr:X9 h p (n+1:Nat)=true
 ·exact key h p hh r (by rw[hr];simp) (.inr (.inl ⟨hc,hr,rfl⟩))
 have hr:X9 h p (n+1:Nat)=false:=by simpa using hr
 obtain⟨q,rq⟩:=qX r hc;have ht:h.to=0∨h.to=1:=(Zm.1 r.lay).2.2.2.2.1;exact key (Y3 h) q (zG hh ht) rq (by rw[hr,hc];simp) (.inr (.inr ⟨hc,hr,rfl⟩))
end Vm
end
section
namespace Vm
open Go Go.Proofs Go.RowKit
set_option maxHeartbeats 4000000
set_option maxRecDepth 100000
theorem Z0L(w:World)(h:Hp)(src:Nat→Value){k s i z pp v v' er:Int}{r':Nat}{g:Hp}{Q:Prop}
  (hP: ∀W,Below w.heap.size w W→Calls Try.prog 32 #[hpA h src,.agg #[.int .i64 z,.int .i64 pp]] W (Q5 W (v',g,er) Q))
  {res:Hp×Int} (he:(¬er=0∧res=(Hp.zero,er))∨(er=0∧Q∧r'<g.roots.length∧res=(setL g 4 r' v',0))):
  Calls Try.prog 144 #[.agg (actA k r' s i z pp v),hpA h src] w (X5 w res):=by
 have HP:=Z8r hP;have HE:=Z8r he;obtain⟨W0,hW0,hz0,st0⟩:=zY w (.cells (actA k r' s i z pp v) 149) (.cells (nowA h src) 25);obtain⟨p0,s0,_,_⟩:=st0.F;have ST0:=Z8r st0;have HW0:=Z8r hW0;unfold nowA actA at hW0;unfold nowA at s0;unfold actA at p0;have hPc:=hP W0 st0.bel;unfold hpA at hPc;clear hP st0 he;unfold hpA actA;go_enter Try.func144,Try.ntmps144
 go_upto_region 2 with (first
  | (go_at_call 32;go_loud (refine hPc.mono ?_;clear hPc;rintro e w5 ⟨y,rfl,hb5,hrd,hown⟩;dsimp only at hb5 hrd hown;obtain⟨a0,q0,e0⟩:=ZI (hrd 0 (by omega));obtain⟨a1,q1,e1⟩:=ZI (hrd 1 (by omega));obtain⟨a2,q2,e2⟩:=ZI (hrd 2 (by omega));obtain⟨a3,q3,e3⟩:=ZI (hrd 3 (by omega));obtain⟨a4,q4,e4⟩:=ZI (hrd 4 (by omega));dsimp only;unfold hpA;rw[e0,e1,e2,e3,e4];have HB5:=Z8r (And.intro hb5 hown);clear hb5 hrd hown p0 s0)))
 obtain⟨W6,hW6⟩: ∃W6,w5.alloc (.cells #[.int .u64 g.base,.int .i64 g.cap,.int .i64 g.to,.bool g.cycle,.int .i64 g.scan,.slice a0 (lsH g 0).length q0,.slice a1 (lsH g 1).length q1,.slice a2 (lsH g 2).length q2,.slice a3 (lsH g 3).length q3,.slice a4 (lsH g 4).length q4] 25)=W6:=⟨_,rfl⟩;rw[hW6];have E:=Z8r (And.intro e0 (And.intro e1 (And.intro e2 (And.intro e3 e4))));have st6:=((ST0.out.below HB5.out.1).below (W':=W6) (by rw[←hW6];exact(Z8E _ _).alloc (Z8v _) _));have ST6:=Z8r st6;have b1:W6.heap[w.heap.size+1]? =_:=st6.b1;have HW6:=Z8r hW6;clear st6 hW6 e0 e1 e2 e3 e4 b1 hW0;rcases HE.out with ⟨hne,rfl⟩ | ⟨rfl,hQ,hrl,rfl⟩
 ·have hne':=Zan hne;obtain⟨r6,_,z6,f6⟩:=ST6.out.F;unfold Zf at z6;go_wp2;have z13:=Zj ST6.out.b2 (.int .u64 0) (.int .i64 0) (.int .i64 0) (.bool false) (.int .i64 0) (.slice none 0 0) (.slice none 0 0) (.slice none 0 0) (.slice none 0 0) (.slice none 0 0);refine Z8K (v:= .tuple #[.agg Zf,.int .i64 er]) ?_ rfl ?_
  ·simp[results,Try.results144,go_sem,z13,Zf]
  ·exact Ut ST6.out.bel er _ _ _ _ _ _ _ _ _ _
 ·have st7:MSt w W6 149 (actA k r' s i z pp v) g y w5.heap.size:=Z2B (by have:=HB5.out.1;rw[←HW0.out]at this;exact this) (by have:=HB5.out.2 hQ;rw[←HW0.out]at this;exact this) (by rw[E.out.1,E.out.2.1,E.out.2.2.1,E.out.2.2.2.1,E.out.2.2.2.2];exact HW6.out);obtain⟨e0,e1,e2,e3,e4⟩:=E.out;obtain⟨g4,hg4⟩:=XU (st7.own.own 4 (by omega)) e4 (by show 0<g.roots.length;omega);subst hg4;have hop:=st7.own.own 4 (by omega);rw[e4]at hop;have hrl':r'< (lsH g 4).length:=hrl;obtain⟨rv,hrv⟩: ∃rv,(lsH g 4)[r']? =some rv:=⟨_,Z8n hrl'⟩;have hcl:=Yh hop hrv;have hfr:=Sv hop (i:=r') (by omega);have st8:=st7.put (j:=4) (i:=r') (by omega) e4 v';obtain⟨f1,f2⟩:=st7.F;rw[e0,e1,e2,e3,e4]at f2;obtain⟨f3,f4⟩:=st8.F;obtain⟨s1,s2,s3,s4,s5⟩:=Xe g 4 r' v';rw[s1,s2,s3,s4,s5,e0,e1,e2,e3,e4]at f4;obtain⟨r3,r4⟩:=st8.R;unfold actA at f1 f3;have HST:=Z8r st8;clear st7 st8 hop hrv s1 s2 s3 s4 s5 e0 e1 e2 e3 e4 HE hrl;go_wp2;obtain⟨e0,e1,e2,e3,e4⟩:=E.out;have e13:=TU g 4 r' v' y;have z13:=Zj HST.out.res (.int .u64 g.base) (.int .i64 g.cap) (.int .i64 g.to) (.bool g.cycle) (.int .i64 g.scan) (.slice a0 (lsH g 0).length q0) (.slice a1 (lsH g 1).length q1) (.slice a2 (lsH g 2).length q2) (.slice a3 (lsH g 3).length q3) (.slice (some ⟨g4,0,none⟩) (lsH g 4).length q4);refine Z8K (v:= .tuple #[hpA (setL g 4 r' v') y,.int .i64 0]) ?_ rfl ?_
  ·rw[e13];unfold hpA;rw[e0,e1,e2,e3,e4];simp[results,Try.results144,go_sem,z13]
  ·exact Lr HST.out _ _ _ _ _ _ _ _ _ _
end Vm
end
section
namespace Vm
open Go Go.Proofs Go.RowKit
set_option maxHeartbeats 40000000
set_option maxRecDepth 100000
structure LSt (w W:World) (act:Array Value) (h:Hp) (src:Nat→Value):Prop where
 act:W.heap[w.heap.size]? =some (.cells act 150 (0,0))
 hbx:W.heap[w.heap.size+1]? =some (.cells #[.int .u64 h.base,.int .i64 h.cap,.int .i64 h.to,.bool h.cycle,.int .i64 h.scan,src 0,src 1,src 2,src 3,src 4] 25 (0,0))
 res:W.heap[w.heap.size+2]? =some (.cells Zf 25 (0,0))
 bel:Below w.heap.size w W
theorem LSt.below{w W W':World}{act:Array Value}{h:Hp}{src:Nat→Value}(s:LSt w W act h src)(hb:Below W.heap.size W W'):LSt w W' act h src:=
 ⟨(hb.block _ (Za s.act)).trans s.act,(hb.block _ (Za s.hbx)).trans s.hbx,(hb.block _ (Za s.res)).trans s.res,s.bel.trans (hb.mono s.bel.size)⟩
theorem LSt.drew{w W:World}{act:Array Value}{h:Hp}{src:Nat→Value}(s:LSt w W act h src):LSt w W.drew act h src:=⟨s.act,s.hbx,s.res,s.bel.drew⟩
theorem Z5m(w:World)(act:Array Value)(h:Hp)(src:Nat→Value): ∃W,((w.alloc (.cells act 150)).alloc (.cells #[.int .u64 h.base,.int .i64 h.cap,.int .i64 h.to,.bool h.cycle,.int .i64 h.scan,src 0,src 1,src 2,src 3,src 4] 25)).alloc (.cells Zf 25)=W∧LSt w W act h src:=by
 refine⟨_,rfl,?_,?_,?_,(((Z8E _ _).alloc (Z8v _) _).alloc (by simp) _).alloc (by simp;omega) _⟩
 ·rw[Z8t _ _ _ (by simp;omega),Z8t _ _ _ (by simp)];exact Z8C _ _
 ·rw[Z8t _ _ _ (by simp)];exact KS _ _ _
 ·have:=Z8C ((w.alloc (.cells act 150)).alloc (.cells #[.int .u64 h.base,.int .i64 h.cap,.int .i64 h.to,.bool h.cycle,.int .i64 h.scan,src 0,src 1,src 2,src 3,src 4] 25)) (.cells Zf 25);simpa using this
theorem LSt.F{w W:World}{act:Array Value}{h:Hp}{src:Nat→Value}(s:LSt w W act h src):(∀j,W.cell? ⟨w.heap.size,j,none⟩=act[j]?)∧(∀j,W.cell? ⟨w.heap.size+1,j,none⟩=(#[.int .u64 h.base,.int .i64 h.cap,.int .i64 h.to,.bool h.cycle,.int .i64 h.scan,src 0,src 1,src 2,src 3,src 4]:Array Value)[j]?):=
 ⟨fun j=>Z8s _ _ _ _ _ _ s.act,fun j=>Z8s _ _ _ _ _ _ s.hbx⟩
theorem Z4c{W:World}{G:Nat→Prop}{l:List Int}{a:Option Addr}{n c:Nat}(h:Rd W G (.sl (l.map vu)) (.slice a n c)):l.length≤c∧c≤maxLen:=by
 generalize hL:l.map vu=L at h;have hl:L.length=l.length:=by rw[←hL,Z8P]
 cases h with
 |nil _ _ h1=>exact⟨by simp at hl;omega,h1⟩
 |sl _ b o cap kk vs h1 h2=>exact⟨by omega,h2⟩
theorem Z2p{w W:World}{G:Nat→Prop}(hG: ∀b,G b→b<w.heap.size)(hb:Below w.heap.size w W){h:Hp}{src:Nat→Value}(hs: ∀j,j<5→Rd w G (.sl ((lsH h j).map vu)) (src j))(hh:h.ok)(hl:Z8 (layH h)=true){w0 u:Int}{j a n m:Nat}(O:ObAt h w0 j a n m u):
  Calls Try.prog 146 #[hpA h src,.int .u64 w0] W fun e w'=> ∃g off gc,src j= .slice (some ⟨g,off,none⟩) (lsH h j).length gc∧Sa W g (off+(a+1)) (off+(a+1+m)) m (n-m) e w':=by
 have hj:j<5:=by rcases O.j01 with rfl|rfl<;>omega
 have hsW: ∀j,j<5→Rd W G (.sl ((lsH h j).map vu)) (src j):=fun j hj=>(hs j hj).keep (fun b hb'=>hb.block b (hG b hb')) fun _ q=>q;obtain⟨g,off,cap,e1,c1,g1⟩:=Us (hsW j hj) O.at_;have hcap:=hsW j hj;rw[e1]at hcap;replace hcap:=Z4c hcap;rw[O.eq];refine(SX W G (fun c hc=>Z8z (hG c hc) hb.size) h hh src hsW hl O.j01 O.at_ O.un O.mn O.fits (by rw[←O.eq];exact O.u64) e1 c1 g1 hcap).mono ?_;exact fun e w' hp=>⟨g,off,cap,e1,hp⟩
theorem LSt.R{w W:World}{act:Array Value}{h:Hp}{src:Nat→Value}(s:LSt w W act h src):(∀j,W.cell? ⟨w.heap.size+1+1,j,none⟩=(#[.int .u64 0,.int .i64 0,.int .i64 0,.bool false,.int .i64 0,.slice none 0 0,.slice none 0 0,.slice none 0 0,.slice none 0 0,.slice none 0 0]:Array Value)[j]?)∧ ∀j,W.frozen? ⟨w.heap.size+1+1,j,none⟩=false:=
 ⟨fun j=>Z8s _ _ _ _ _ _ s.res,fun j=>Zk s.res⟩
theorem Z1v{w w12 w13:World}{act:Array Value}{h g:Hp}{src x:Nat→Value}(s:LSt w w12 act h src)(hb:Below w12.drew.heap.size w12.drew w13)(ho:HOwn w12.drew.heap.size w13 g x):
  MSt w (w13.alloc (.cells #[.int .u64 g.base,.int .i64 g.cap,.int .i64 g.to,.bool g.cycle,.int .i64 g.scan,x 0,x 1,x 2,x 3,x 4] 25)) 150 act g x w13.heap.size:=by
 have hz:w12.drew.heap.size=w12.heap.size:=rfl;have h3:=Za s.res;have hs:=hb.size;refine⟨(Z8t _ _ _ (by have:=Za s.act;omega)).trans ((hb.block _ (Za s.act)).trans s.act),(Z8t _ _ _ (by omega)).trans ((hb.block _ h3).trans s.res),Z8C _ _,⟨fun j hj=>Wl (Ze (ho.own j hj) fun c hc=>Z8t _ _ _ ((ho.own j hj).lt c hc).2) (by omega),ho.apart⟩,fun j hj c hc=> ?_,(s.bel.drew.trans (hb.mono s.bel.size)).alloc (by have:=s.bel.size;omega) _,by omega⟩;have:=((ho.own j hj).lt c hc).2;omega
theorem jw{w w12 w13:World}{act:Array Value}{h g:Hp}{src x:Nat→Value}(s:LSt w w12 act h src)(hb:Below (w12.drew.alloc (.cells Zf 25)).heap.size (w12.drew.alloc (.cells Zf 25)) w13)(ho:HOwn (w12.drew.alloc (.cells Zf 25)).heap.size w13 g x):
  MSt w ((((((((((w13.setCell ⟨w12.heap.size,0,none⟩ (.int .u64 g.base)).setCell ⟨w12.heap.size,1,none⟩ (.int .i64 g.cap)).setCell ⟨w12.heap.size,2,none⟩ (.int .i64 g.to)).setCell ⟨w12.heap.size,3,none⟩ (.bool g.cycle)).setCell ⟨w12.heap.size,4,none⟩ (.int .i64 g.scan)).setCell ⟨w12.heap.size,5,none⟩ (x 0)).setCell ⟨w12.heap.size,6,none⟩ (x 1)).setCell ⟨w12.heap.size,7,none⟩ (x 2)).setCell ⟨w12.heap.size,8,none⟩ (x 3)).setCell ⟨w12.heap.size,9,none⟩ (x 4)) 150 act g x w12.heap.size:=by
 have hz:(w12.drew.alloc (.cells Zf 25)).heap.size=w12.heap.size+1:=by rw[Za2];rfl
 have h3:=Za s.res;have h1:=Za s.act;have hs:=hb.size;rw[hz]at hb ho;have q: ∀c,c<w12.heap.size→((((((((((w13.setCell ⟨w12.heap.size,0,none⟩ (.int .u64 g.base)).setCell ⟨w12.heap.size,1,none⟩ (.int .i64 g.cap)).setCell ⟨w12.heap.size,2,none⟩ (.int .i64 g.to)).setCell ⟨w12.heap.size,3,none⟩ (.bool g.cycle)).setCell ⟨w12.heap.size,4,none⟩ (.int .i64 g.scan)).setCell ⟨w12.heap.size,5,none⟩ (x 0)).setCell ⟨w12.heap.size,6,none⟩ (x 1)).setCell ⟨w12.heap.size,7,none⟩ (x 2)).setCell ⟨w12.heap.size,8,none⟩ (x 3)).setCell ⟨w12.heap.size,9,none⟩ (x 4)).heap[c]? =w12.heap[c]? :=fun c hc=>(Zt (by omega) _ _ _ _ _ _ _ _ _ _).trans ((hb.block c (by omega)).trans (Z8t w12.drew _ c hc));have hbl:Below w.heap.size w w13:=(s.bel.drew.alloc s.bel.size _).trans (hb.mono (by have:=s.bel.size;omega));have hzb:w13.heap[w12.heap.size]? =some (.cells Zf 25 (0,0)):=(hb.block _ (by omega)).trans (Z8C w12.drew _);refine⟨(q _ h1).trans s.act,(q _ h3).trans s.res,Wq hzb _ _ _ _ _ _ _ _ _ _,⟨fun j hj=>Wl (Ze (ho.own j hj) fun c hc=>Zt (by have:=((ho.own j hj).lt c hc).1;omega) _ _ _ _ _ _ _ _ _ _) (by omega),ho.apart⟩,fun j hj c hc=> ?_,Zh hbl s.bel.size _ _ _ _ _ _ _ _ _ _,by omega⟩;have:=((ho.own j hj).lt c hc).1;omega
theorem yC(w:World)(G:Nat→Prop)(hG: ∀b,G b→b<w.heap.size)(h:Hp)(hh:h.ok)(src:Nat→Value)(hs: ∀j,j<5→Rd w G (.sl ((lsH h j).map vu)) (src j))(hl:Z8 (layH h)=true){k z pp v i w0:Int}{s r':Nat}(hr:h.roots[s]? =some w0)(hrl:r'<h.roots.length)(hi:Fit i)
  {res:Hp×Int} (hO:(w0=0∧res=(Hp.zero,6))∨ ∃j a n m u,ObAt h w0 j a n m u∧((¬(0≤i∧i< (m:Nat))∧res=(Hp.zero,1))∨
   ∃(i':Nat) (pv v':Int) (g:Hp),i=i'∧i'<m∧(lsH h j)[a+1+i']? =some pv∧U64 pv∧fwd h pv=(v',g,0)∧g.ok∧g.roots=h.roots∧Z8 (layH g)=true∧ObAt g w0 j a n m u∧res=(setL (setL g j (a+1+i') v') 4 r' v',0))):
  Calls Try.prog 145 #[.agg (actA k r' s i z pp v),hpA h src] w (X5 w res):=by
 obtain⟨b4,o4,c4,e4,hc4,hg4⟩:=Us (hs 4 (by omega)) hr;have hsl:s<h.roots.length:=(Z8o.1 hr).1;have hb4:=hG b4 hg4;rcases hO with ⟨h0,hre⟩ | ⟨j,a,n,m,u,O,hres⟩
 case' inl=>have H0:=Z8r h0
 case' inl=>have HRE:=Z8r hre
 case' inl=>clear h0 hre
 case' inr=>have HO:=Z8r O
 case' inr=>have HRES:=Z8r hres
 case' inr=>clear O hres
 all_goals
  have HS:=Z8r hs;have HRT:=Z8r hr;have HH:=Z8r hh;have E4:=Z8r e4;obtain⟨W3,hW3,st3⟩:=Z5m w #[.int .i64 k,.int .i64 r',.int .i64 s,.int .i64 i,.int .i64 z,.int .i64 pp,.int .u64 v] h src
  have SOf: ∀u,LSt w u #[.int .i64 k,.int .i64 r',.int .i64 s,.int .i64 i,.int .i64 z,.int .i64 pp,.int .u64 v] h src→(fun w'=>(∀j,w'.cell? ⟨w.heap.size,j,none⟩=(#[.int .i64 k,.int .i64 r',.int .i64 s,.int .i64 i,.int .i64 z,.int .i64 pp,.int .u64 v]:Array Value)[j]?)∧(∀j,w'.cell? ⟨w.heap.size+1,j,none⟩=(#[.int .u64 h.base,.int .i64 h.cap,.int .i64 h.to,.bool h.cycle,.int .i64 h.scan,src 0,src 1,src 2,src 3,.slice (some ⟨b4,o4,none⟩) h.roots.length c4]:Array Value)[j]?)∧w'.cell? ⟨b4,o4+s,none⟩=some (.int .u64 w0)∧LSt w w' #[.int .i64 k,.int .i64 r',.int .i64 s,.int .i64 i,.int .i64 z,.int .i64 pp,.int .u64 v] h src) u:=fun u st=>by
   obtain⟨f1,f2⟩:=st.F;rw[show src 4=_ from E4.out]at f2;exact⟨f1,f2,(st.bel.cell (p:=⟨b4,o4+s,none⟩) hb4).trans hc4,st⟩
  have HSO:=Z8r SOf;have S10:=SOf W3.drew st3.drew;unfold hpA actA;rw[show src 4=_ from e4];unfold Zf at hW3;rw[show src 4=_ from e4]at hW3;clear hs hh hr e4 hc4 hg4 SOf st3;go_enter Try.func145,Try.ntmps145;go_wp2
  try rw[show(lsH h 4).length=h.roots.length from rfl]at hW3
  try rw[hW3]
  clear hW3
  go_region_held3 (fun w'=>(∀j,w'.cell? ⟨w.heap.size,j,none⟩=(#[.int .i64 k,.int .i64 r',.int .i64 s,.int .i64 i,.int .i64 z,.int .i64 pp,.int .u64 v]:Array Value)[j]?)∧(∀j,w'.cell? ⟨w.heap.size+1,j,none⟩=(#[.int .u64 h.base,.int .i64 h.cap,.int .i64 h.to,.bool h.cycle,.int .i64 h.scan,src 0,src 1,src 2,src 3,.slice (some ⟨b4,o4,none⟩) h.roots.length c4]:Array Value)[j]?)∧w'.cell? ⟨b4,o4+s,none⟩=some (.int .u64 w0)∧LSt w w' #[.int .i64 k,.int .i64 r',.int .i64 s,.int .i64 i,.int .i64 z,.int .i64 pp,.int .u64 v] h src) (first|exact S10|assumption)
   (first
    | (go_at_call 146;have hsc:=Q0 (w0:=w0) W3.drew h src H0.out;unfold hpA at hsc;rw[show src 4=_ from E4.out]at hsc;refine hsc.mono ?_;rintro e w11 ⟨rfl,hb11⟩;have S11:=HSO.out _ (S10.2.2.2.below hb11))
    | (go_at_call 146;have hsc:=Z2p hG S10.2.2.2.bel HS.out HH.out hl HO.out;unfold hpA at hsc;rw[show src 4=_ from E4.out]at hsc;refine hsc.mono ?_;rintro e w11 ⟨g0,o0,gc,hgx,p1,l1,c1,p2,l2,c2,rfl,hl1,hl2,hp1,hp2,hb11⟩;have S11:=HSO.out _ (S10.2.2.2.below hb11)))
  obtain⟨f1,f2,f3,st11⟩:=S11;obtain⟨r3,r4⟩:=st11.R;have ST11:=Z8r st11;rename_i hHeld;clear S10 st11 hHeld
 ·have HGX:=Z8r (And.intro hgx (And.intro hp1 (And.intro hp2 (And.intro hl1 hl2))));clear hgx hp1 hp2 hb11;have hj5:j<5:=by rcases HO.out.j01 with rfl|rfl<;>omega
  have hmm:m≤1000000:=by have:=WI HH.out j;have:=HO.out.fits;have:=HO.out.mn;omega
  rcases HRES.out with ⟨hno,hre⟩ | ⟨i',pv,v',g,rfl,him,hpv,hpu,hfw,hgk,hgr,hgl,OG,hre⟩
  ·have HW:=fun W=>Wa W hi (p:=p1) (n:=m) (c:=c1) hmm;rw[Zc9 hno]at HW;have HWI:=Z8r HW;have HRE:=Z8r hre;clear HW hre hno f2 f3 r3 r4
   go_wp2_with (first
    | (go_at_call 147;go_loud (refine(HWI.out _).mono ?_;rintro e w12 ⟨rfl,hb12⟩;have st12:=ST11.out.below hb12;obtain⟨k1,k2⟩:=st12.F;obtain⟨r5,r6⟩:=st12.R;have ST12:=Z8r st12;clear st12 hb12)))
   rw[HRE.out];have z13:=Zj ST12.out.res (.int .u64 0) (.int .i64 0) (.int .i64 0) (.bool false) (.int .i64 0) (.slice none 0 0) (.slice none 0 0) (.slice none 0 0) (.slice none 0 0) (.slice none 0 0);refine Z8K (v:= .tuple #[.agg Zf,.int .i64 1]) ?_ rfl ?_
   ·simp[results,Try.results145,go_sem,z13,Zf]
   ·exact Ut ST12.out.bel 1 _ _ _ _ _ _ _ _ _ _
  ·have HW:=fun W=>Wa W hi (p:=p1) (n:=m) (c:=c1) hmm;rw[ZaU (And.intro (by omega) (by omega))]at HW;have hp1':p1=some ⟨g0,o0+(a+1),none⟩:=HGX.out.2.1 (by omega);subst hp1';obtain⟨gq,oq,cq,e1,cc,gg⟩:=Us (HS.out j hj5) hpv;have hgq:=hG gq gg;have hsame:=e1.symm.trans HGX.out.1;simp only[Value.slice.injEq,Z8l,Addr.mk.injEq]at hsame;obtain⟨⟨rfl,rfl,-⟩,-,rfl⟩:=hsame;have HWI:=Z8r HW;have HRE:=Z8r hre;rw[←Z9i oq (a+1) i']at cc;have HC:=Z8r cc;have HOG:=Z8r (And.intro OG (And.intro hgk (And.intro hgr hgl)));have HFW:=Z8r (And.intro hfw (And.intro hpv hpu));clear HW hre cc OG hgk hgr hgl hfw e1 hpv f3
   go_wp2_with (first
    | (go_at_call 147;go_loud (refine(HWI.out _).mono ?_;rintro e w12 ⟨rfl,hb12⟩;have st12:=ST11.out.below hb12;obtain⟨k1,k2⟩:=st12.F;rw[show src 4=_ from E4.out]at k2;obtain⟨r5,r6⟩:=st12.R;have k3:=(st12.bel.cell (p:=⟨gq,oq+(a+1)+i',none⟩) hgq).trans HC.out;have sa:=fun o=>(st12.drew.below ((Z8E _ _).alloc (Z8v _) o)).F;have k1a:=fun o j=>(sa o).1 j;have k2a:=fun o j=>(sa o).2 j;simp only[show src 4=_ from E4.out]at k2a;have k3a:=fun o=>(Z9B w12.drew o ⟨gq,oq+(a+1)+i',none⟩ (by have:=st12.bel.size;show gq<w12.heap.size;omega)).trans k3;have nq1:gq<w12.heap.size:=(by have:=st12.bel.size;omega);have nq2: ¬gq=w12.heap.size:=(by omega);have nq3: ¬w12.heap.size=gq:=(by omega);have nq4:w.heap.size<w12.heap.size:=Za st12.act;have nq5:w.heap.size+1<w12.heap.size:=Za st12.hbx;have nq6: ¬w.heap.size=w12.heap.size:=(by omega);have nq7: ¬w.heap.size+1=w12.heap.size:=(by omega);have ST12:=Z8r st12;clear st12 hb12 sa)))
   have hF: ∀W,Below w.heap.size w W→Calls Try.prog 39 #[.agg #[.int .u64 h.base,.int .i64 h.cap,.int .i64 h.to,.bool h.cycle,.int .i64 h.scan,src 0,src 1,src 2,src 3,.slice (some ⟨b4,o4,none⟩) (lsH h 4).length c4],.int .u64 pv] W (WY W (v',g,0)):=fun W hb=>by
    have:=Vd W G (fun b hb'=>Z8z (hG b hb') hb.size) h HH.out src (fun j hj=>(HS.out j hj).keep (fun b hb'=>hb.block b (hG b hb')) fun _ q=>q) pv HFW.out.2.2;rw[HFW.out.1]at this;unfold hpA at this;rw[show src 4=_ from E4.out]at this;exact this
   have HF:=Z8r hF;clear hF;obtain⟨Q6,hQ6⟩: ∃Q6:Act→World→Prop,Q6=fun t W=> ∃(nb:Nat) (x:Nat→Value),t.defers= []∧t.tmps.size=82∧t.tmps.getD 2 undef= .pointer (some ⟨w.heap.size,0,none⟩)∧t.tmps.getD 4 undef= .pointer (some ⟨w.heap.size+2,0,none⟩)∧t.tmps.getD 8 undef= .int .i64 0∧t.tmps.getD 9 undef= .int .u64 v'∧t.tmps.getD 10 undef= .pointer (some ⟨nb,0,none⟩)∧MSt w W 150 #[.int .i64 k,.int .i64 r',.int .i64 s,.int .i64 (i':Nat),.int .i64 z,.int .i64 pp,.int .u64 v] g x nb:=⟨_,rfl⟩;have HQ:=Z8r hQ6;clear hQ6;refine ZbN (Q:=Exit.then Q6 (fun _ _ _=>False)) ?h6 ?rest
   case h6=>
    go_region_with (go_at_call 39;refine(HF.out _ ?_).mono ?_;(first|exact ST12.out.bel.drew|exact ST12.out.bel.drew.alloc (by have:=ST12.out.bel.size;simp;omega) _);rintro e w13 ⟨x,rfl,hb13,ho13⟩;obtain⟨a0,q0,e0⟩:=Z3 (ho13.own 0 (by omega));obtain⟨a1,q1,e1⟩:=Z3 (ho13.own 1 (by omega));obtain⟨a2,q2,e2⟩:=Z3 (ho13.own 2 (by omega));obtain⟨a3,q3,e3⟩:=Z3 (ho13.own 3 (by omega));obtain⟨a4,q4,e5⟩:=Z3 (ho13.own 4 (by omega));(first| (have zb:=(hb13.block w12.heap.size (by simp[World.drew])).trans (Z8C w12.drew _);have zc:=fun j=>Z8s _ _ j _ _ _ zb;have zf:=fun(j:Nat)=>Zk (o:=j) zb;have ZB:=Z8r zb;clear zb) |skip);have HB13:=Z8r (And.intro hb13 (And.intro ho13 (And.intro e0 (And.intro e1 (And.intro e2 (And.intro e3 e5))))));clear hb13 ho13;unfold hpA;rw[e0,e1,e2,e3,e5])
    all_goals
     simp only[Exit.then,Act.put];rw[HQ.out];obtain⟨hb13,ho13,e0,e1,e2,e3,e5⟩:=HB13.out
     first
     | (refine⟨w13.heap.size,x,rfl,rfl,rfl,rfl,rfl,rfl,rfl,?_⟩
        have:=Z1v ST12.out hb13 ho13;rw[e0,e1,e2,e3,e5]at this;exact this)
     | (refine⟨w12.heap.size,x,rfl,rfl,rfl,rfl,rfl,rfl,rfl,?_⟩
        have:=jw ST12.out hb13 ho13;rw[e0,e1,e2,e3,e5]at this;exact this)
   case rest=>
    intro e t W13 hq;cases e with
    |normal=>
     simp only[Exit.then]at hq⊢;rw[HQ.out]at hq;obtain⟨nb,x,hd,htz,t2,t4,t8,t9,t10,st13⟩:=hq;obtain⟨t,d⟩:=t;simp only at hd htz t2 t4 t8 t9 t10;subst hd;obtain⟨u,hu⟩: ∃u:Nat→Value,∀i,t.getD i undef=u i:=⟨fun i=>t.getD i undef,fun _=>rfl⟩
     have et:t= #[u 0,u 1,u 2,u 3,u 4,u 5,u 6,u 7,u 8,u 9,u 10,u 11,u 12,u 13,u 14,u 15,u 16,u 17,u 18,u 19,u 20,u 21,u 22,u 23,u 24,u 25,u 26,u 27,u 28,u 29,u 30,u 31,u 32,u 33,u 34,u 35,u 36,u 37,u 38,u 39,u 40,u 41,u 42,u 43,u 44,u 45,u 46,u 47,u 48,u 49,u 50,u 51,u 52,u 53,u 54,u 55,u 56,u 57,u 58,u 59,u 60,u 61,u 62,u 63,u 64,u 65,u 66,u 67,u 68,u 69,u 70,u 71,u 72,u 73,u 74,u 75,u 76,u 77,u 78,u 79,u 80,u 81]:=(jB htz).trans (by
      have e0:(fun i=>t.getD i undef)=u:=funext hu;rw[e0];rfl)
     rw[hu]at t2 t4 t8 t9 t10;rw[t2,t4,t8,t9,t10]at et;clear hu htz t2 t4 t8 t9 t10;subst et;have HGK:=Z8r HOG.out.2.1;obtain⟨f1,f2⟩:=st13.F;obtain⟨a0,q0,e0⟩:=Z3 (st13.own.own 0 (by omega));obtain⟨a1,q1,e1⟩:=Z3 (st13.own.own 1 (by omega));obtain⟨a2,q2,e2⟩:=Z3 (st13.own.own 2 (by omega));obtain⟨a3,q3,e3⟩:=Z3 (st13.own.own 3 (by omega));obtain⟨a4,q4,e4⟩:=Z3 (st13.own.own 4 (by omega));have hrg:(lsH g 4)[s]? =some w0:=by show g.roots[s]? =some w0;rw[HOG.out.2.2.1];exact HRT.out
     have hsg:s< (lsH g 4).length:=(Z8o.1 hrg).1;have hrg2:r'< (lsH g 4).length:=by show r'<g.roots.length;rw[HOG.out.2.2.1];exact hrl
     obtain⟨g4,hg4⟩:=XU (st13.own.own 4 (by omega)) e4 (by omega);subst hg4;have E:=Z8r (And.intro e0 (And.intro e1 (And.intro e2 (And.intro e3 e4))))
     have SOf: ∀u,MSt w u 150 #[.int .i64 k,.int .i64 r',.int .i64 s,.int .i64 (i':Nat),.int .i64 z,.int .i64 pp,.int .u64 v] g x nb→(fun w'=>(∀j,w'.cell? ⟨w.heap.size,j,none⟩=(#[.int .i64 k,.int .i64 r',.int .i64 s,.int .i64 (i':Nat),.int .i64 z,.int .i64 pp,.int .u64 v]:Array Value)[j]?)∧(∀j,w'.cell? ⟨nb,j,none⟩=(#[.int .u64 g.base,.int .i64 g.cap,.int .i64 g.to,.bool g.cycle,.int .i64 g.scan,.slice a0 (lsH g 0).length q0,.slice a1 (lsH g 1).length q1,.slice a2 (lsH g 2).length q2,.slice a3 (lsH g 3).length q3,.slice (some ⟨g4,0,none⟩) (lsH g 4).length q4]:Array Value)[j]?)∧w'.cell? ⟨g4,s,none⟩=some (.int .u64 w0)∧MSt w w' 150 #[.int .i64 k,.int .i64 r',.int .i64 s,.int .i64 (i':Nat),.int .i64 z,.int .i64 pp,.int .u64 v] g x nb) u:=fun u st=>by
      obtain⟨f1,f2⟩:=st.F;obtain⟨e0,e1,e2,e3,e4⟩:=E.out;rw[e0,e1,e2,e3,e4]at f2;have h4:=st.own.own 4 (by omega);rw[e4]at h4;exact⟨f1,f2,Yh h4 hrg,st⟩
     have HSO:=Z8r SOf;have S10:=SOf W13.drew st13.drew;clear SOf e0 e1 e2 e3 e4 st13 f1 f2 k1 k2 k3 k1a k2a k3a r3 r4 r5 r6 nq1 nq2 nq3 nq4 nq5 nq6 nq7;go_wp2
     go_region_held3 (fun w'=>(∀j,w'.cell? ⟨w.heap.size,j,none⟩=(#[.int .i64 k,.int .i64 r',.int .i64 s,.int .i64 (i':Nat),.int .i64 z,.int .i64 pp,.int .u64 v]:Array Value)[j]?)∧(∀j,w'.cell? ⟨nb,j,none⟩=(#[.int .u64 g.base,.int .i64 g.cap,.int .i64 g.to,.bool g.cycle,.int .i64 g.scan,.slice a0 (lsH g 0).length q0,.slice a1 (lsH g 1).length q1,.slice a2 (lsH g 2).length q2,.slice a3 (lsH g 3).length q3,.slice (some ⟨g4,0,none⟩) (lsH g 4).length q4]:Array Value)[j]?)∧w'.cell? ⟨g4,s,none⟩=some (.int .u64 w0)∧MSt w w' 150 #[.int .i64 k,.int .i64 r',.int .i64 s,.int .i64 (i':Nat),.int .i64 z,.int .i64 pp,.int .u64 v] g x nb) (first|exact S10|assumption)
      (first| (go_at_call 146;have hsc:=KD S10.2.2.2 HGK.out HOG.out.2.2.2 HOG.out.1;unfold hpA at hsc;rw[E.out.1,E.out.2.1,E.out.2.2.1,E.out.2.2.2.1,E.out.2.2.2.2]at hsc;refine hsc.mono ?_;rintro e w21 ⟨g5,gc5,hgx5,p15,l15,c15,p25,l25,c25,rfl,hl15,hl25,hp15,hp25,hb21⟩;have S21:=HSO.out _ (S10.2.2.2.below hb21)))
     obtain⟨f1,f2,f3,st21⟩:=S21;rename_i hHeld;clear hHeld S10;obtain⟨idx,hidx⟩: ∃idx,a+1+i'=idx:=⟨_,rfl⟩;have hil:idx< (lsH g j).length:=by have:=HOG.out.1.fits;have:=HOG.out.1.mn;omega
     have hp15':p15=some ⟨g5,a+1,none⟩:=hp15 (by omega);subst hp15';have hop:=st21.own.own j hj5;rw[hgx5]at hop;obtain⟨rv,hrv⟩: ∃rv,(lsH g j)[idx]? =some rv:=⟨_,Z8n hil⟩;have hcl:=Yh hop hrv;have hfr:=Sv hop (i:=idx) (by omega);have st22:=st21.put hj5 (i:=idx) hgx5 v'
     have hx4:lsH (setL g j idx v') 4=lsH g 4:=by
      rw[TX g idx v' hj5 (by omega),if_neg (by have:=HO.out.j01;omega)]
     have e4:=E.out.2.2.2.2;rw[←hx4]at e4;have st23:=st22.put (j:=4) (i:=r') (by omega) e4 v';obtain⟨s1,s2,s3,s4,s5⟩:=Xe g j idx v';obtain⟨k3,k4⟩:=st22.F;rw[s1,s2,s3,s4,s5,E.out.1,E.out.2.1,E.out.2.2.1,E.out.2.2.2.1,E.out.2.2.2.2]at k4;have hop4:=st22.own.own 4 (by omega);rw[e4]at hop4;obtain⟨rv4,hrv4⟩: ∃rv,(lsH (setL g j idx v') 4)[r']? =some rv:=⟨_,Z8n (by rw[hx4];exact hrg2)⟩;have hcl4:=Yh hop4 (i:=r') hrv4;have hfr4:=Sv hop4 (i:=r') (by rw[hx4];omega);obtain⟨m3,m4⟩:=st23.F;obtain⟨r3,r4⟩:=st23.R;obtain⟨w1,w2,w3,w4,w5⟩:=Xe (setL g j idx v') 4 r' v';rw[w1,w2,w3,w4,w5,s1,s2,s3,s4,s5,E.out.1,E.out.2.1,E.out.2.2.1,E.out.2.2.2.1,E.out.2.2.2.2]at m4;have z13:=Zj st23.res (.int .u64 g.base) (.int .i64 g.cap) (.int .i64 g.to) (.bool g.cycle) (.int .i64 g.scan) (.slice a0 (lsH g 0).length q0) (.slice a1 (lsH g 1).length q1) (.slice a2 (lsH g 2).length q2) (.slice a3 (lsH g 3).length q3) (.slice (some ⟨g4,0,none⟩) (lsH g 4).length q4);have e13:hpA (setL (setL g j idx v') 4 r' v') x=hpA g x:=by rw[TU,TU]
     have HST:=Z8r st23;clear st21 st22 st23 hop hop4 s1 s2 s3 s4 s5 w1 w2 w3 w4 w5 e4 hx4 hrv4 hrv hp15 hp25 hgx5 f2;go_wp2;rw[HRE.out,hidx];refine Z8K (v:= .tuple #[hpA (setL (setL g j idx v') 4 r' v') x,.int .i64 0]) ?_ rfl ?_
     ·rw[e13];unfold hpA;rw[E.out.1,E.out.2.1,E.out.2.2.1,E.out.2.2.2.1,E.out.2.2.2.2];simp[results,Try.results145,go_sem,z13]
     ·exact Lr HST.out _ _ _ _ _ _ _ _ _ _
    |_=>exact hq.elim
 ·go_wp2;rw[HRE.out];have z13:=Zj ST11.out.res (.int .u64 0) (.int .i64 0) (.int .i64 0) (.bool false) (.int .i64 0) (.slice none 0 0) (.slice none 0 0) (.slice none 0 0) (.slice none 0 0) (.slice none 0 0);refine Z8K (v:= .tuple #[.agg Zf,.int .i64 6]) ?_ rfl ?_
  ·simp[results,Try.results145,go_sem,z13,Zf]
  ·exact Ut ST11.out.bel 6 _ _ _ _ _ _ _ _ _ _
end Vm
end
