/-
  The law FlipNone holds of the given program, for every input.
-/
import Derived.ScopeJumps
import Derived.WalkMore
import Derived.Deep.CutRange
import Derived.Deep.DeepCutAuto
import Derived.Deep.LoopGhost
import Derived.Test.YtjkmonbmpoegjaaRows
import Derived.Test.YtjkmonbmpoegjaaSFlipNone6
set_option linter.unusedSimpArgs false
set_option linter.unusedVariables false
section
namespace Vm
open Go Go.Proofs Go.RowKit
set_option maxHeartbeats 40000000
set_option maxRecDepth 100000
def UV(w:World)(r:Hp×Int)(e:Ending)(w':World):Prop:=
 ∃x,e= .returned (.tuple #[hpA r.1 x,.int .i64 r.2])∧Below w.heap.size w w'∧ ∀j,j<5→Rd w' (fun c=>w.heap.size≤c∧c<w'.heap.size) (.sl ((lsH r.1 j).map vu)) (x j)
theorem WC{w:World}{G:Nat→Prop}{h:Hp}{x:Nat→Value}(hh:h.ok)(hG: ∀b,G b→b<w.heap.size)(hr: ∀j,j<5→Rd w G (.sl ((lsH h j).map vu)) (x j)):
  Calls Try.prog 33 #[hpA h x] w fun e w'=>e= .returned (.bool (Yb h))∧Below w.heap.size w w':=by
 refine Calls.mono ((Z1A hh).2 w G _ hG rfl ?_) ?_
 ·intro i y hy
  match i,hy with
  |0,hy=>cases hy;exact Z29 hr
 ·rintro e w' ⟨v,rfl,hb,hv⟩
  exact⟨by rw[Sa hv],hb⟩
theorem Z15(w:World)(G:Nat→Prop)(hG: ∀b,G b→b<w.heap.size)(h:Hp)(hh:h.ok)(src:Nat→Value)(hs: ∀j,j<5→Rd w G (.sl ((lsH h j).map vu)) (src j))(hr:Yb h=false):
  Calls Try.prog 17 #[hpA h src] w (UV w (Hp.zero,1)):=by
 have hR: ∀W,Below w.heap.size w W→Calls Try.prog 33 #[hpA h src] W fun e w'=>e= .returned (.bool (Yb h))∧Below W.heap.size W w':=fun W hb=>
  WC (w:=W) (G:=G) (x:=src) hh (fun b hb'=>Nat.lt_of_lt_of_le (hG b hb') hb.size) (fun j hj=>(hs j hj).keep (fun b hb'=>hb.block b (hG b hb')) fun _ q=>q)
 rw[hr]at hR
 have HR:=Lib.hid hR
 clear hR
 clear hs hr
 unfold hpA
 go_enter Try.func17,Try.ntmps17
 go_wp2
 refine wp_scope_jumps 0 (fun _ _=>False) (fun _ _=>0) rfl ?_ (fun _ _ h=>h.elim)
 go_upto_region 2 with (first
  | (go_at_call 33;refine(HR.out _ ?_).mono ?_;rotate_left;rintro e wa ⟨rfl,hba⟩
     have bA:wa.heap[w.heap.size]? =some (.cells #[.int .u64 h.base,.int .i64 h.cap,.int .i64 h.to,.bool h.cycle,.int .i64 h.scan,src 0,src 1,src 2,src 3,src 4] 25 (0,0)):=(hba.block _ (by simp;omega)).trans ((Below.heap_alloc _ _ _ (by simp)).trans (heap_alloc_new w _))
     have bZ:wa.heap[w.heap.size+1]? =some (.cells Z2 25 (0,0)):=(hba.block _ (by simp)).trans (ZR w _)
     have ya: ∀j,wa.cell? ⟨w.heap.size,j,none⟩=(#[.int .u64 h.base,.int .i64 h.cap,.int .i64 h.to,.bool h.cycle,.int .i64 h.scan,src 0,src 1,src 2,src 3,src 4]:Array Value)[j]? :=fun j=>cell_of_row _ _ _ _ _ _ bA
     have yz: ∀j,wa.cell? ⟨w.heap.size+1,j,none⟩=Z2[j]? :=fun j=>cell_of_row _ _ _ _ _ _ bZ
     unfold Z2 at yz
     have fz: ∀j,wa.frozen? ⟨w.heap.size+1,j,none⟩=false:=fun j=>Zb bZ
     have HBA:=Lib.hid hba
     have HBZ:=Lib.hid (And.intro bA bZ)
     clear hba bA bZ))
 case refine_1=>exact((Below.refl _ w).alloc (Nat.le_refl _) _).alloc (by simp) _
 go_wp2
 simp only[Exit.jump]
 have hz:=Zl HBZ.out.2 (.int .u64 0) (.int .i64 0) (.int .i64 0) (.bool false) (.int .i64 0) (.slice none 0 0) (.slice none 0 0) (.slice none 0 0) (.slice none 0 0) (.slice none 0 0)
 refine bodyPost_ret (v:= .tuple #[.agg Z2,.int .i64 1]) ?_ rfl ?_
 ·simp[results,Try.results17,go_sem,hz,Z2]
 ·exact⟨fun _=> .slice none 0 0,rfl,Zi (Below.trans (((Below.refl _ w).alloc (Nat.le_refl _) _).alloc (by simp) _) (HBA.out.mono (by simp;omega))) (by omega) _ _ _ _ _ _ _ _ _ _,qu _ _⟩
theorem Z0N(w:World)(G:Nat→Prop)(hG: ∀b,G b→b<w.heap.size)(h:Hp)(hh:h.ok)(src:Nat→Value)(hs: ∀j,j<5→Rd w G (.sl ((lsH h j).map vu)) (src j))(hr:Yb h=true)(hc:h.cycle=true):
  Calls Try.prog 17 #[hpA h src] w (UV w (Hp.zero,10)):=by
 have hR: ∀W,Below w.heap.size w W→Calls Try.prog 33 #[hpA h src] W fun e w'=>e= .returned (.bool (Yb h))∧Below W.heap.size W w':=fun W hb=>
  WC (w:=W) (G:=G) (x:=src) hh (fun b hb'=>Nat.lt_of_lt_of_le (hG b hb') hb.size) (fun j hj=>(hs j hj).keep (fun b hb'=>hb.block b (hG b hb')) fun _ q=>q)
 rw[hr]at hR
 unfold hpA at hR
 rw[hc]at hR
 have HR:=Lib.hid hR
 clear hR
 clear hs hr
 unfold hpA
 rw[hc]
 clear hc
 go_enter Try.func17,Try.ntmps17
 go_wp2
 refine wp_scope_jumps 0 (fun _ _=>False) (fun _ _=>0) rfl ?_ (fun _ _ h=>h.elim)
 go_upto_region 4 with (first
  | (go_at_call 33;refine(HR.out _ ?_).mono ?_;rotate_left;rintro e wa ⟨rfl,hba⟩
     have bA:wa.heap[w.heap.size]? =some (.cells #[.int .u64 h.base,.int .i64 h.cap,.int .i64 h.to,.bool true,.int .i64 h.scan,src 0,src 1,src 2,src 3,src 4] 25 (0,0)):=(hba.block _ (by simp;omega)).trans ((Below.heap_alloc _ _ _ (by simp)).trans (heap_alloc_new w _))
     have bZ:wa.heap[w.heap.size+1]? =some (.cells Z2 25 (0,0)):=(hba.block _ (by simp)).trans (ZR w _)
     have ya: ∀j,wa.cell? ⟨w.heap.size,j,none⟩=(#[.int .u64 h.base,.int .i64 h.cap,.int .i64 h.to,.bool true,.int .i64 h.scan,src 0,src 1,src 2,src 3,src 4]:Array Value)[j]? :=fun j=>cell_of_row _ _ _ _ _ _ bA
     have yz: ∀j,wa.cell? ⟨w.heap.size+1,j,none⟩=Z2[j]? :=fun j=>cell_of_row _ _ _ _ _ _ bZ
     unfold Z2 at yz
     have fz: ∀j,wa.frozen? ⟨w.heap.size+1,j,none⟩=false:=fun j=>Zb bZ
     have HBA:=Lib.hid hba
     have HBZ:=Lib.hid (And.intro bA bZ)
     clear hba bA bZ))
 case refine_1=>exact((Below.refl _ w).alloc (Nat.le_refl _) _).alloc (by simp) _
 go_wp2
 simp only[Exit.jump]
 have hz:=Zl HBZ.out.2 (.int .u64 0) (.int .i64 0) (.int .i64 0) (.bool false) (.int .i64 0) (.slice none 0 0) (.slice none 0 0) (.slice none 0 0) (.slice none 0 0) (.slice none 0 0)
 refine bodyPost_ret (v:= .tuple #[.agg Z2,.int .i64 10]) ?_ rfl ?_
 ·simp[results,Try.results17,go_sem,hz,Z2]
 ·exact⟨fun _=> .slice none 0 0,rfl,Zi (Below.trans (((Below.refl _ w).alloc (Nat.le_refl _) _).alloc (by simp) _) (HBA.out.mono (by simp;omega))) (by omega) _ _ _ _ _ _ _ _ _ _,qu _ _⟩
end Vm
end
section
namespace Vm
open Go Go.Proofs Go.RowKit
set_option maxHeartbeats 1000000
set_option maxRecDepth 100000
theorem Jx{P:Program}{a:Act}{w:World}{Q:Exit→Act→World→Prop}{c rest:Code}(l:Nat)(J:Act→World→Prop)(μ:Act→World→Nat)(hf:findLabel c l=some (.seq .skip rest))
  (pass: ∀a w,J a w→rest.wp P (Exit.jump l (fun a' w'=>J a' w'∧μ a' w'<μ a w) Q) a w)
  (first:(∀a w,J a w→rest.wp P (Exit.jump l J Q) a w)→c.wp P (Exit.jump l J Q) a w):(Code.scope c).wp P Q a w:=
 wp_scope_jumps l J μ hf (first fun a w hJ=>Code.wp_mono (fun e a' w' h=>by
  cases e<;>first
   |exact h
   |exact⟨h.1,h.2.1⟩) (pass a w hJ)) fun a w hJ=>wp_seq (wp_skip (pass a w hJ))
theorem Z0G{t:Array Value}{n:Nat}(h:t.size=n):t=((List.range n).map fun i=>t.getD i undef).toArray:=by
 apply Array.ext
 ·simp[h]
 ·intro i h1 h2
  simp[Array.getD,h1]
theorem jV{w2:World}{b:Nat}{T:TypeId}{a0 a1 a2 a3 a4 a5 a6 a7 a8 a9:Value}(hb:w2.heap[b]? =some (.cells #[a0,a1,a2,a3,a4,a5,a6,a7,a8,a9] T (0,0))) (v0 v1 v2 v3 v4 v5 v6 v7 v8 v9:Value):((((((((((w2.setCell ⟨b,0,none⟩ v0).setCell ⟨b,1,none⟩ v1).setCell ⟨b,2,none⟩ v2).setCell ⟨b,3,none⟩ v3).setCell ⟨b,4,none⟩ v4).setCell ⟨b,5,none⟩ v5).setCell ⟨b,6,none⟩ v6).setCell ⟨b,7,none⟩ v7).setCell ⟨b,8,none⟩ v8).setCell ⟨b,9,none⟩ v9).heap[b]? =some (.cells #[v0,v1,v2,v3,v4,v5,v6,v7,v8,v9] T (0,0)):=by
 simp[World.setCell,Array.getElem?_modify,hb]
def hpC(h:Hp)(x:Nat→Value):Array Value:= #[.int .u64 h.base,.int .i64 h.cap,.int .i64 h.to,.bool h.cycle,.int .i64 h.scan,x 0,x 1,x 2,x 3,x 4]
structure FlI (w W:World) (c:Nat) (g:Hp) (x:Nat→Value):Prop where
 below:Below w.heap.size w W
 rb:W.heap[w.heap.size+1]? =some (.cells Z2 25 (0,0))
 le:w.heap.size+2≤c
 nb:W.heap[c]? =some (.cells (hpC g x) 25 (0,0))
 rd: ∀j,j<5→Rd W (fun b=>w.heap.size+2≤b∧b<W.heap.size∧b≠c) (.sl ((lsH g j).map vu)) (x j)
theorem Z2Q{n:Int}(h:n=0∨n=1):Fit (1-n):=by unfold Fit;omega
theorem jf{h:Hp}(hh:h.ok)(ht:h.to=0∨h.to=1):(Yv h).ok:=by
 obtain⟨a1,a2,a3,a4,a5,a6,a7,a8,a9,b1,b2,b3,b4,b5⟩:=hh
 exact⟨a1,a2,Z2Q ht,⟨by show _≤(0:Int);omega,by show(0:Int)≤_;omega⟩,Nat.zero_le _,Nat.zero_le _,a5,a6,a9,fun w hw=>(by cases hw),fun w hw=>(by cases hw),b1,b2,b5⟩
theorem qM{h:Hp}(hh:h.ok){k:Nat}{v:Int}(hv:U64 v):({h with roots:=h.roots.set k v}:Hp).ok:=by
 obtain⟨a1,a2,a3,a4,a5,a6,a7,a8,a9,b1,b2,b3,b4,b5⟩:=hh
 refine⟨a1,a2,a3,a4,a5,a6,a7,a8,by simp only[List.length_set];exact a9,b1,b2,b3,b4,fun w hw=> ?_⟩
 rcases List.mem_or_eq_of_mem_set hw with hw|rfl
 ·exact b5 w hw
 ·exact hv
theorem jr{l:List Int}(h: ∀w∈l,U64 w)(i:Nat):U64 ((l[i]?).getD 0):=by
 cases e:l[i]? with
 |none=>exact⟨by decide,by decide⟩
 |some x=>exact h x (List.mem_of_getElem? e)
theorem Rz{h:Hp}(hh:h.ok)(ht:h.to=0∨h.to=1): ∀k,(WD (Yv h) k).ok
 |0=>jf hh ht
 |k+1=>by
  have ih:=Rz hh ht k
  have f:=jY ih (jr ih.rootsW k)
  exact qM f.1 f.2
def frs(i:Nat):Nat:=if i<7 then 39+i else if i=7 then 38 else if i=8 then 46 else if i=9 then 47 else if i=10 then 48 else if i=11 then 7 else if i=12 then 6 else if i=14 then 8 else 0
theorem JC: ∀i,i<15→ ∀j,j<15→i≠j→frs i≠frs j:=by decide
def frE(c:Nat)(g:Hp)(x:Nat→Value)(k:Nat)(ea:Value)(u:Int):Nat→Value
 |0=> .agg (hpC g x)
 |1=> .pointer (some ⟨c,9,none⟩)
 |2=>x 4
 |3=> .int .i64 k
 |4=>ea
 |_=> .int .u64 u
def frT(fv:Int)(g':Hp)(x':Nat→Value):Value:= .tuple #[.int .u64 fv,.agg (hpC g' x'),.int .i64 0]
def FrV(E:Nat→Value)(fv:Int)(g':Hp)(O:(Nat→Value)→Prop)(i:Nat)(val:Value):Prop:=
 if i<6 then val=E i else if i=6∨i=7 then ∃x',val=frT fv g' x'∧O x' else if i=9 then ∃x',val= .agg (hpC g' x')∧O x' else if i=8∨i=12 then val= .int .u64 fv else val= .int .i64 0
theorem FrV.mono{E:Nat→Value}{fv:Int}{g':Hp}{O O':(Nat→Value)→Prop}{i:Nat}{val:Value}(h:FrV E fv g' O i val)(ho: ∀x,O x→O' x):FrV E fv g' O' i val:=by
 unfold FrV at*
 split
 ·rename_i c;rw[if_pos c]at h;exact h
 rename_i c;rw[if_neg c]at h
 split
 ·rename_i c;rw[if_pos c]at h;obtain⟨x,e,o⟩:=h;exact⟨x,e,ho x o⟩
 rename_i c;rw[if_neg c]at h
 split
 ·rename_i c;rw[if_pos c]at h;obtain⟨x,e,o⟩:=h;exact⟨x,e,ho x o⟩
 rename_i c;rw[if_neg c]at h
 exact h
structure FrO (W0 W:World) (L:Nat→Bool) (v:Nat→Value) (g':Hp) (x':Nat→Value):Prop where
 own:HOwn W0.heap.size W g' x'
 far: ∀j,j<5→ ∀b,(x' j).ownBlock=some b→L 11=true→v 7≠ .pointer (some ⟨b,0,none⟩)
structure FrC (W0:World) (E:Nat→Value) (fv:Int) (g':Hp) (L:Nat→Bool) (v:Nat→Value) (W:World):Prop where
 b:Below W0.heap.size W0 W
 val: ∀i,i<15→i≠11→i≠13→L i=true→FrV E fv g' (FrO W0 W L v g') i (v (frs i))
 new:L 11=true→ ∃c,v 7= .pointer (some ⟨c,0,none⟩)∧W0.heap.size≤c∧c<W.heap.size∧(L 13=false→W.heap[c]? =some (.cells Z2 25 (0,0)))
 put:L 13=true→ ∃c x',v 7= .pointer (some ⟨c,0,none⟩)∧W.heap[c]? =some (.cells (hpC g' x') 25 (0,0))∧FrO W0 W L v g' x'
 c13:L 13=true→L 11=true
section
variable {W0 W W':World} {E:Nat→Value} {fv:Int} {g':Hp} {L:Nat→Bool} {v:Nat→Value}
theorem FrO.keep{L':Nat→Bool}{v':Nat→Value}{x':Nat→Value}(o:FrO W0 W L v g' x')(hs: ∀j,j<5→ ∀b,(x' j).ownBlock=some b→W'.heap[b]? =W.heap[b]?)(hz:W.heap.size≤W'.heap.size)
  (hf: ∀j,j<5→ ∀b,(x' j).ownBlock=some b→L' 11=true→v' 7≠ .pointer (some ⟨b,0,none⟩)):FrO W0 W' L' v' g' x':=
 ⟨⟨fun j hj=>Zo (o.own.own j hj) fun b hb=>hs j hj b hb,o.own.apart⟩,hf⟩
theorem FrC.step(C:FrC W0 E fv g' L v W){i s:Nat}(hi:i<15)(h11:i≠11)(h13:i≠13)(hs:s=frs i){x:Value}(hb:Below W.heap.size W W')
  (hv:FrV E fv g' (FrO W0 W' L v g') i x):FrC W0 E fv g' (add L i) (setV v s x) W':=by
 subst hs
 have a11:add L i 11=L 11:=YB (by omega)
 have a13:add L i 13=L 13:=YB (by omega)
 have v7:setV v (frs i) x 7=v 7:=XJ v x (show frs 11≠frs i from JC 11 (by omega) i hi (Ne.symm h11))
 have kp: ∀x',FrO W0 W L v g' x'→FrO W0 W' (add L i) (setV v (frs i) x) g' x':=fun x' o=>o.keep (fun j hj b hb'=>hb.block b ((o.own.own j hj).lt b hb').2) hb.size (fun j hj b hb'=>by rw[a11,v7];exact o.far j hj b hb')
 have kp': ∀x',FrO W0 W' L v g' x'→FrO W0 W' (add L i) (setV v (frs i) x) g' x':=fun x' o=>o.keep (fun _ _ _ _=>rfl) (Nat.le_refl _) (fun j hj b hb'=>by rw[a11,v7];exact o.far j hj b hb')
 refine⟨C.b.trans (hb.mono C.b.size),fun j hj j11 j13 hL=> ?_,fun hL=> ?_,fun hL=> ?_,fun hL=> ?_⟩
 ·by_cases e:j=i
  ·subst e
   rw[YW]
   exact hv.mono kp'
  ·rw[YB e]at hL
   rw[XJ v x (JC j hj i hi e)]
   exact(C.val j hj j11 j13 hL).mono kp
 ·rw[a11]at hL
  obtain⟨c,e1,e2,e3,e4⟩:=C.new hL
  refine⟨c,by rw[v7];exact e1,e2,Nat.lt_of_lt_of_le e3 hb.size,fun h0=> ?_⟩
  rw[a13]at h0
  exact(hb.block c e3).trans (e4 h0)
 ·rw[a13]at hL
  obtain⟨c,x',e1,e2,e3⟩:=C.put hL
  exact⟨c,x',by rw[v7];exact e1,(hb.block c (Zy e2)).trans e2,kp x' e3⟩
 ·rw[a13]at hL
  rw[a11]
  exact C.c13 hL
theorem FrC.call(C:FrC W0 E fv g' L v W){x':Nat→Value}(hb:Below W.heap.size W W')(ho:HOwn W.heap.size W' g' x'):FrC W0 E fv g' (add L 6) (setV v 45 (frT fv g' x')) W':=by
 refine C.step (by omega) (by omega) (by omega) rfl hb ?_
 unfold FrV
 rw[if_neg (by omega),if_pos (.inl rfl)]
 refine⟨x',rfl,⟨fun j hj=>UJ (ho.own j hj) fun b h1 h2=>⟨Nat.le_trans C.b.size h1,h2⟩,ho.apart⟩,fun j hj b hb' hL e=> ?_⟩
 obtain⟨c,e1,_,e3,_⟩:=C.new hL
 rw[e1]at e
 cases e
 have:=((ho.own j hj).lt b hb').1
 omega
theorem FrC.alloc(C:FrC W0 E fv g' L v W)(h11:L 11=false):FrC W0 E fv g' (add L 11) (setV v 7 (.pointer (some ⟨W.heap.size,0,none⟩))) (W.alloc (.cells Z2 25)):=by
 have h13:L 13=false:=by
  cases e:L 13 with
  |false=>rfl
  |true=>have:=C.c13 e;rw[h11]at this;cases this
 have hb:Below W.heap.size W (W.alloc (.cells Z2 25)):=(Below.refl _ _).alloc (Nat.le_refl _) _
 have hz:(W.alloc (.cells Z2 25)).heap.size=W.heap.size+1:=by simp
 have kp: ∀x',FrO W0 W L v g' x'→FrO W0 (W.alloc (.cells Z2 25)) (add L 11) (setV v 7 (.pointer (some ⟨W.heap.size,0,none⟩))) g' x':=fun x' o=>o.keep (fun j hj b hb'=>hb.block b ((o.own.own j hj).lt b hb').2) hb.size (fun j hj b hb' _=>by
  rw[YW]
  intro e
  cases e
  have:=((o.own.own j hj).lt _ hb').2
  omega)
 refine⟨C.b.trans (hb.mono C.b.size),fun j hj j11 j13 hL=> ?_,fun hL=> ?_,fun hL=> ?_,fun hL=> ?_⟩
 ·rw[YB j11]at hL
  rw[XJ v _ (s:=7) (t:=frs j) (show frs j≠7 from JC j hj 11 (by omega) j11)]
  exact(C.val j hj j11 j13 hL).mono kp
 ·exact⟨W.heap.size,YW _ _ _,C.b.size,by omega,fun _=>heap_alloc_new W _⟩
 ·rw[YB (by omega),h13]at hL
  cases hL
 ·exact Tb _ _
theorem FrC.store(C:FrC W0 E fv g' L v W){c:Nat}(hc:v 7= .pointer (some ⟨c,0,none⟩)){y:Nat→Value}(hy:FrO W0 W L v g' y)(h11:L 11=true)(hn:L 13=false)(hz:W.heap[c]? =some (.cells Z2 25 (0,0)))
  (hW: ∀b,b≠c→W'.heap[b]? =W.heap[b]?) (hs:W'.heap.size=W.heap.size) (hp:W'.heap[c]? =some (.cells (hpC g' y) 25 (0,0))) (hb:Below W0.heap.size W W'):FrC W0 E fv g' (add L 13) v W':=by
 have a11:add L 13 11=L 11:=YB (by omega)
 have kp: ∀x',FrO W0 W L v g' x'→FrO W0 W' (add L 13) v g' x':=fun x' o=>o.keep (fun j hj b hb'=>hW b (fun e=>by subst e;exact o.far j hj b hb' h11 hc)) (by omega) (fun j hj b hb' _=>o.far j hj b hb' h11)
 obtain⟨c',e1,e2,e3,_⟩:=C.new h11
 rw[hc]at e1
 cases e1
 refine⟨C.b.trans hb,fun j hj j11 j13 hL=> ?_,fun hL=> ?_,fun hL=> ?_,fun hL=>by rw[a11];exact h11⟩
 ·rw[YB j13]at hL
  exact(C.val j hj j11 j13 hL).mono kp
 ·refine⟨c,hc,e2,by omega,fun h0=> ?_⟩
  rw[Tb]at h0
  cases h0
 ·exact⟨c,y,hc,hp,kp y hy⟩
theorem FrC.e(C:FrC W0 E fv g' L v W)(i:Nat)(hi:i<6)(hL:L i=true):v (frs i)=E i:=by
 have:=C.val i (by omega) (by omega) (by omega) hL
 unfold FrV at this
 rwa[if_pos hi]at this
theorem FrC.t(C:FrC W0 E fv g' L v W)(i:Nat)(hi:i=6∨i=7)(hL:L i=true): ∃x',v (frs i)=frT fv g' x'∧FrO W0 W L v g' x':=by
 have:=C.val i (by omega) (by omega) (by omega) hL
 unfold FrV at this
 rwa[if_neg (by omega),if_pos hi]at this
theorem FrC.a(C:FrC W0 E fv g' L v W)(hL:L 9=true): ∃x',v 47= .agg (hpC g' x')∧FrO W0 W L v g' x':=by
 have:=C.val 9 (by omega) (by omega) (by omega) hL
 unfold FrV at this
 rwa[if_neg (by omega),if_neg (by omega),if_pos rfl]at this
theorem FrC.f(C:FrC W0 E fv g' L v W)(i:Nat)(hi:i=8∨i=12)(hL:L i=true):v (frs i)= .int .u64 fv:=by
 have:=C.val i (by omega) (by omega) (by omega) hL
 unfold FrV at this
 rwa[if_neg (by omega),if_neg (by omega),if_neg (by omega),if_pos hi]at this
theorem FrC.z(C:FrC W0 E fv g' L v W)(i:Nat)(hi:i=10∨i=14)(hL:L i=true):v (frs i)= .int .i64 0:=by
 have:=C.val i (by omega) (by omega) (by omega) hL
 unfold FrV at this
 rwa[if_neg (by omega),if_neg (by omega),if_neg (by omega),if_neg (by omega)]at this
theorem FrC.pe(C:FrC W0 E fv g' L v W)(i:Nat)(hi:i<6){s:Nat}(hs:s=frs i):FrC W0 E fv g' (add L i) (setV v s (E i)) W:=
 C.step (by omega) (by omega) (by omega) hs (Below.refl _ _) (by unfold FrV;rw[if_pos hi])
theorem FrC.pt(C:FrC W0 E fv g' L v W){x':Nat→Value}(o:FrO W0 W L v g' x'):FrC W0 E fv g' (add L 7) (setV v 38 (frT fv g' x')) W:=
 C.step (by omega) (by omega) (by omega) rfl (Below.refl _ _) (by unfold FrV;rw[if_neg (by omega),if_pos (.inr rfl)];exact⟨x',rfl,o⟩)
theorem FrC.pa(C:FrC W0 E fv g' L v W){x':Nat→Value}(o:FrO W0 W L v g' x'):FrC W0 E fv g' (add L 9) (setV v 47 (.agg (hpC g' x'))) W:=
 C.step (by omega) (by omega) (by omega) rfl (Below.refl _ _) (by unfold FrV;rw[if_neg (by omega),if_neg (by omega),if_pos rfl];exact⟨x',rfl,o⟩)
theorem FrC.pf(C:FrC W0 E fv g' L v W)(i:Nat)(hi:i=8∨i=12){s:Nat}(hs:s=frs i):FrC W0 E fv g' (add L i) (setV v s (.int .u64 fv)) W:=
 C.step (by omega) (by omega) (by omega) hs (Below.refl _ _) (by unfold FrV;rw[if_neg (by omega),if_neg (by omega),if_neg (by omega),if_pos hi])
theorem FrC.pz(C:FrC W0 E fv g' L v W)(i:Nat)(hi:i=10∨i=14){s:Nat}(hs:s=frs i):FrC W0 E fv g' (add L i) (setV v s (.int .i64 0)) W:=
 C.step (by omega) (by omega) (by omega) hs (Below.refl _ _) (by unfold FrV;rw[if_neg (by omega),if_neg (by omega),if_neg (by omega),if_neg (by omega)])
end
theorem Z1n{W:World}{G:Nat→Prop}{l:List Int}{y:Value}(h:Rd W G (.sl (l.map vu)) y){k:Nat}{u:Int}(hu:l[k]? =some u): ∃b o cap,y= .slice (some ⟨b,o,none⟩) l.length cap∧W.cell? ⟨b,o+k,none⟩=some (.int .u64 u)∧G b:=by
 have hkl:=(List.getElem?_eq_some_iff.1 hu).1
 generalize hL:l.map vu=L at h
 cases h with
 |nil=>simp at hL;subst hL;simp at hkl
 |sl _ b o cap kk vs h1 h2 h3 h4 h5 h6=>
  have hlen:L.length=l.length:=by rw[←hL,List.length_map]
  have hkk:kk=1:=by
   have:=(h4 (vu u) (by rw[←hL];exact List.mem_map_of_mem (List.mem_of_getElem? hu))).1
   simpa using this.symm
  subst hkk
  refine⟨b,o,cap,by rw[hlen],?_,h3⟩
  rw[h5 k (by omega)]
  have hf:(flat L)[k]? =some (vu u):=by rw[←hL,QS,List.getElem?_map,hu];rfl
  rw[XU (h6 k _ hf)]
end Vm
end
section
namespace Vm
open Go Go.Proofs Go.RowKit
set_option maxHeartbeats 40000000
set_option maxRecDepth 100000
theorem Z0Y(w:World)(G:Nat→Prop)(hG: ∀b,G b→b<w.heap.size)(h:Hp)(hh:h.ok)(src:Nat→Value)(hs: ∀j,j<5→Rd w G (.sl ((lsH h j).map vu)) (src j)){p:Pts}(r:Rt h p)(hc:h.cycle=false):
  Calls Try.prog 17 #[hpA h src] w (UV w (V8 h,0)):=by
 have hR: ∀W,Below w.heap.size w W→Calls Try.prog 33 #[hpA h src] W fun e w'=>e= .returned (.bool (Yb h))∧Below W.heap.size W w':=fun W hb=>
  WC (w:=W) (G:=G) (x:=src) hh (fun b hb'=>Nat.lt_of_lt_of_le (hG b hb') hb.size) (fun j hj=>(hs j hj).keep (fun b hb'=>hb.block b (hG b hb')) fun _ q=>q)
 rw[r.right]at hR
 unfold hpA at hR
 rw[hc]at hR
 have HR:=Lib.hid hR
 have HS:=Lib.hid hs
 have HH:=Lib.hid hh
 have HRT:=Lib.hid r
 have HC:=Lib.hid hc
 have hto:h.to=0∨h.to=1:=by have:=Zu.1 r.lay;exact this.2.2.2.2.1
 have wto:=Z4 (1-h.to) (by omega) (by omega)
 clear hR hs hh r hto
 unfold hpA
 rw[hc]
 clear hc
 go_enter Try.func17,Try.ntmps17
 go_wp2
 refine Jx 0 (fun a W=> ∃(c k:Nat) (x:Nat→Value),a.defers= []∧a.tmps.size=72∧a.tmps.getD 2 undef= .pointer (some ⟨w.heap.size+1,0,none⟩)∧a.tmps.getD 4 undef= .pointer (some ⟨c,0,none⟩)∧a.tmps.getD 5 undef= .int .i64 k∧k≤h.roots.length∧FlI w W c (WD (Yv h) k) x) (fun a _=>h.roots.length- (intOf (a.tmps.getD 5 undef)).toNat) rfl ?_ ?_
 ·rintro a W ⟨c,k,x,hd,hsz,h2,h4,h5,hk,HI⟩
  obtain⟨t,d⟩:=a
  simp only at hd hsz h2 h4 h5
  subst hd
  obtain⟨u,hu⟩: ∃u:Nat→Value,∀i,t.getD i undef=u i:=⟨fun i=>t.getD i undef,fun _=>rfl⟩
  have et:t= #[u 0,u 1,u 2,u 3,u 4,u 5,u 6,u 7,u 8,u 9,u 10,u 11,u 12,u 13,u 14,u 15,u 16,u 17,u 18,u 19,u 20,u 21,u 22,u 23,u 24,u 25,u 26,u 27,u 28,u 29,u 30,u 31,u 32,u 33,u 34,u 35,u 36,u 37,u 38,u 39,u 40,u 41,u 42,u 43,u 44,u 45,u 46,u 47,u 48,u 49,u 50,u 51,u 52,u 53,u 54,u 55,u 56,u 57,u 58,u 59,u 60,u 61,u 62,u 63,u 64,u 65,u 66,u 67,u 68,u 69,u 70,u 71]:=(Z0G hsz).trans (by
   have e0:(fun i=>t.getD i undef)=u:=funext hu
   rw[e0]
   rfl)
  rw[hu]at h2 h4 h5
  rw[h2,h4,h5]at et
  clear hu hsz h2 h4 h5
  subst et
  have HIH:=Lib.hid HI
  clear HI
  by_cases hlt:k<h.roots.length
  ·have hto:h.to=0∨h.to=1:=by have:=Zu.1 HRT.out.lay;exact this.2.2.2.2.1
   obtain⟨q,I⟩:=VT HRT.out HC.out k (by omega)
   obtain⟨⟨fv,g',q',f⟩,_⟩:=Jm HRT.out hlt I
   have gok:=Rz HH.out hto k
   have hroot:(WD (Yv h) k).roots[k]? =some h.roots[k]:=by rw[I.rest k (Nat.le_refl _)];exact List.getElem?_eq_getElem hlt
   have hstep:WD (Yv h) (k+1)= {g' with roots:=g'.roots.set k fv}:=by
    show Qe (WD (Yv h) k) k=_
    unfold Qe
    rw[hroot,Option.getD_some,f.fwd]
   have hgl:(WD (Yv h) k).roots.length=h.roots.length:=I.len
   have er:g'.roots=(WD (Yv h) k).roots:=f.ext.roots
   have gok':g'.ok∧U64 fv:=by have:=jY gok (HH.out.rootsW _ (List.getElem_mem hlt));rw[f.fwd]at this;exact this
   have hfwd:=f.fwd
   have hu0:=HH.out.rootsW _ (List.getElem_mem hlt)
   clear I f
   generalize WD (Yv h) k=g at*
   generalize h.roots[k]=u0 at*
   obtain⟨gb,go,cap,hx4,hcell,hgG⟩:=Z1n (HIH.out.rd 4 (by omega)) hroot
   rw[show(lsH g 4).length=g.roots.length from rfl,hgl]at hx4
   have hF: ∀W',Below W.heap.size W W'→Calls Try.prog 39 #[.agg #[.int .u64 g.base,.int .i64 g.cap,.int .i64 g.to,.bool g.cycle,.int .i64 g.scan,x 0,x 1,x 2,x 3,.slice (some ⟨gb,go,none⟩) h.roots.length cap],.int .u64 u0] W' (Yu W' (fv,g',0)):=fun W' hb=>by
    have:=Q7 W' (fun b=>w.heap.size+2≤b∧b<W.heap.size∧b≠c) (fun b hb'=>Nat.lt_of_lt_of_le hb'.2.1 hb.size) g gok x (fun j hj=>(HIH.out.rd j hj).keep (fun b hb'=>hb.block b hb'.2.1) fun _ q=>q) u0 hu0
    rw[hfwd]at this
    unfold hpA at this
    rw[hx4]at this
    exact this
   have HF:=Lib.hid hF
   have hnb:=HIH.out.nb
   unfold hpC at hnb
   rw[hx4]at hnb
   have yc: ∀j,W.cell? ⟨c,j,none⟩=(#[.int .u64 g.base,.int .i64 g.cap,.int .i64 g.to,.bool g.cycle,.int .i64 g.scan,x 0,x 1,x 2,x 3,.slice (some ⟨gb,go,none⟩) h.roots.length cap]:Array Value)[j]? :=fun j=>cell_of_row _ _ _ _ _ _ hnb
   have hcl:=Zy hnb
   have hltI:((k:Int) < (h.roots.length:Int))=True:=eq_true (by omega)
   have HM:=Lib.hid (And.intro hstep (And.intro er (And.intro gok' (And.intro hgG (And.intro hnb hgl)))))
   clear hF hnb hgl hx4 hstep er gok' hroot hfwd gok hgG
   go_upto_region 8 with fail
   refine Tr [39,40,41,42,43,44,45,38,46,47,48,7,6,8] (FrC W (frE c g (fun j=>if j=4 then .slice (some ⟨gb,go,none⟩) h.roots.length cap else x j) k (.pointer (some ⟨gb,go+k,none⟩)) u0) fv g') follows (by kernel_rfl) ⟨u,by simp only[putF,putL,List.map_cons,List.map_nil,List.foldl_cons,List.foldl_nil,List.setIfInBounds_toArray,List.set_cons_succ,List.set_cons_zero],?_⟩ ?_ ?_
   ·exact⟨(Below.refl _ _).drew,fun i _ _ _ h=>(by cases h),fun h=>(by cases h),fun h=>(by cases h),fun h=>(by cases h)⟩
   ·intro L i o v W1 ho hi hj C
    have HX:=Lib.hid C
    have hz:W.heap.size≤W1.heap.size:=C.b.size
    have yd: ∀j,W1.cell? ⟨c,j,none⟩=(#[.int .u64 g.base,.int .i64 g.cap,.int .i64 g.to,.bool g.cycle,.int .i64 g.scan,x 0,x 1,x 2,x 3,.slice (some ⟨gb,go,none⟩) h.roots.length cap]:Array Value)[j]? :=fun j=>(C.b.cell (p:=⟨c,j,none⟩) hcl).trans (yc j)
    have hcell1:W1.cell? ⟨gb,go+k,none⟩=some (.int .u64 u0):=(C.b.cell (p:=⟨gb,go+k,none⟩) HM.out.2.2.2.1.2.1).trans hcell
    clear C
    have h15:i<15:=(Array.getElem?_eq_some_iff.1 ho).1
    simp only[putF,putL,List.map_cons,List.map_nil,List.foldl_cons,List.foldl_nil,List.setIfInBounds_toArray,List.set_cons_succ,List.set_cons_zero]
    have:i=0∨i=1∨i=2∨i=3∨i=4∨i=5∨i=6∨i=7∨i=8∨i=9∨i=10∨i=11∨i=12∨i=13∨i=14:=by omega
    rcases this with rfl|rfl|rfl|rfl|rfl|rfl|rfl|rfl|rfl|rfl|rfl|rfl|rfl|rfl|rfl
    ·cases ho
     go_wp2
     try simp only[QN]
     refine⟨setV v 39 (.agg #[.int .u64 g.base,.int .i64 g.cap,.int .i64 g.to,.bool g.cycle,.int .i64 g.scan,x 0,x 1,x 2,x 3,.slice (some ⟨gb,go,none⟩) h.roots.length cap]),rfl,?_⟩
     exact HX.out.pe 0 (by omega) rfl
    ·cases ho
     go_wp2
     try simp only[QN]
     refine⟨setV v 40 (.pointer (some ⟨c,9,none⟩)),rfl,?_⟩
     exact HX.out.pe 1 (by omega) rfl
    ·cases ho
     have e1:v 40= .pointer (some ⟨c,9,none⟩):=HX.out.e 1 (by omega) (hj 1 (by decide))
     have E1:=Lib.hid e1
     go_wp2
     try simp only[QN]
     refine⟨setV (setV v 40 (.pointer (some ⟨c,9,none⟩))) 41 (.slice (some ⟨gb,go,none⟩) h.roots.length cap),rfl,?_⟩
     rw[Zg (v:=v) E1.out]
     exact HX.out.pe 2 (by omega) rfl
    ·cases ho
     go_wp2
     try simp only[QN]
     refine⟨setV v 42 (.int .i64 k),rfl,?_⟩
     exact HX.out.pe 3 (by omega) rfl
    ·cases ho
     have e2:v 41= .slice (some ⟨gb,go,none⟩) h.roots.length cap:=HX.out.e 2 (by omega) (hj 2 (by decide))
     have E2:=Lib.hid e2
     have e3:v 42= .int .i64 k:=HX.out.e 3 (by omega) (hj 3 (by decide))
     have E3:=Lib.hid e3
     go_wp2
     try simp only[QN]
     refine⟨setV (setV (setV v 41 (.slice (some ⟨gb,go,none⟩) h.roots.length cap)) 42 (.int .i64 k)) 43 (.pointer (some ⟨gb,go+k,none⟩)),rfl,?_⟩
     rw[Zg (v:=v) E2.out,Zg (v:=v) E3.out]
     exact HX.out.pe 4 (by omega) rfl
    ·cases ho
     have e4:v 43= .pointer (some ⟨gb,go+k,none⟩):=HX.out.e 4 (by omega) (hj 4 (by decide))
     have E4:=Lib.hid e4
     go_wp2
     try simp only[QN]
     refine⟨setV (setV v 43 (.pointer (some ⟨gb,go+k,none⟩))) 44 (.int .u64 u0),rfl,?_⟩
     rw[Zg (v:=v) E4.out]
     exact HX.out.pe 5 (by omega) rfl
    ·cases ho
     have e0:v 39= .agg #[.int .u64 g.base,.int .i64 g.cap,.int .i64 g.to,.bool g.cycle,.int .i64 g.scan,x 0,x 1,x 2,x 3,.slice (some ⟨gb,go,none⟩) h.roots.length cap]:=HX.out.e 0 (by omega) (hj 0 (by decide))
     have E0:=Lib.hid e0
     have e5:v 44= .int .u64 u0:=HX.out.e 5 (by omega) (hj 5 (by decide))
     have E5:=Lib.hid e5
     go_wp2_with (go_at_call 39;refine(HF.out _ HX.out.b).mono ?_;rintro e w9 ⟨x9,rfl,hb9,ho9⟩;have HB9:=Lib.hid (And.intro hb9 ho9);clear hb9 ho9)
     try simp only[QN]
     refine⟨setV (setV (setV v 39 (.agg #[.int .u64 g.base,.int .i64 g.cap,.int .i64 g.to,.bool g.cycle,.int .i64 g.scan,x 0,x 1,x 2,x 3,.slice (some ⟨gb,go,none⟩) h.roots.length cap])) 44 (.int .u64 u0)) 45 (frT fv g' x9),rfl,?_⟩
     rw[Zg (v:=v) E0.out,Zg (v:=v) E5.out]
     exact HX.out.call HB9.out.1 HB9.out.2
    ·cases ho
     obtain⟨x9,e0,o9⟩:=HX.out.t 6 (.inl rfl) (hj 6 (by decide))
     have e0:v 45=frT fv g' x9:=e0
     have E0:=Lib.hid e0
     have O9:=Lib.hid o9
     clear o9
     go_wp2
     try simp only[QN]
     refine⟨setV (setV v 45 (frT fv g' x9)) 38 (frT fv g' x9),rfl,?_⟩
     rw[Zg (v:=v) E0.out]
     exact HX.out.pt O9.out
    ·cases ho
     obtain⟨x9,e0,o9⟩:=HX.out.t 7 (.inr rfl) (hj 7 (by decide))
     have e0:v 38= .tuple #[.int .u64 fv,.agg (hpC g' x9),.int .i64 0]:=e0
     have E0:=Lib.hid e0
     have O9:=Lib.hid o9
     clear o9
     go_wp2
     try simp only[QN]
     refine⟨setV (setV v 38 (.tuple #[.int .u64 fv,.agg (hpC g' x9),.int .i64 0])) 46 (.int .u64 fv),rfl,?_⟩
     rw[Zg (v:=v) E0.out]
     exact HX.out.pf 8 (.inl rfl) rfl
    ·cases ho
     obtain⟨x9,e0,o9⟩:=HX.out.t 7 (.inr rfl) (hj 7 (by decide))
     have e0:v 38= .tuple #[.int .u64 fv,.agg (hpC g' x9),.int .i64 0]:=e0
     have E0:=Lib.hid e0
     have O9:=Lib.hid o9
     clear o9
     go_wp2
     try simp only[QN]
     refine⟨setV (setV v 38 (.tuple #[.int .u64 fv,.agg (hpC g' x9),.int .i64 0])) 47 (.agg (hpC g' x9)),rfl,?_⟩
     rw[Zg (v:=v) E0.out]
     exact HX.out.pa O9.out
    ·cases ho
     obtain⟨x9,e0,o9⟩:=HX.out.t 7 (.inr rfl) (hj 7 (by decide))
     have e0:v 38= .tuple #[.int .u64 fv,.agg (hpC g' x9),.int .i64 0]:=e0
     have E0:=Lib.hid e0
     have O9:=Lib.hid o9
     clear o9
     go_wp2
     try simp only[QN]
     refine⟨setV (setV v 38 (.tuple #[.int .u64 fv,.agg (hpC g' x9),.int .i64 0])) 48 (.int .i64 0),rfl,?_⟩
     rw[Zg (v:=v) E0.out]
     exact HX.out.pz 10 (.inl rfl) rfl
    ·cases ho
     go_wp2
     try simp only[QN]
     exact⟨setV v 7 (.pointer (some ⟨W1.heap.size,0,none⟩)),rfl,HX.out.alloc hi⟩
    ·cases ho
     have e0:v 46= .int .u64 fv:=HX.out.f 8 (.inl rfl) (hj 8 (by decide))
     have E0:=Lib.hid e0
     go_wp2
     try simp only[QN]
     refine⟨setV (setV v 46 (.int .u64 fv)) 6 (.int .u64 fv),rfl,?_⟩
     rw[Zg (v:=v) E0.out]
     exact HX.out.pf 12 (.inr rfl) rfl
    ·cases ho
     obtain⟨c7,e7,hc1,hc2,hc3⟩:=HX.out.new (hj 11 (by decide))
     obtain⟨x9,e47,o9⟩:=HX.out.a (hj 9 (by decide))
     have hc3:=hc3 hi
     have y4: ∀j,W1.cell? ⟨c7,j,none⟩=Z2[j]? :=fun j=>cell_of_row _ _ _ _ _ _ hc3
     unfold Z2 at y4
     have y5: ∀j,W1.frozen? ⟨c7,j,none⟩=false:=fun j=>Zb hc3
     have H3:=Lib.hid hc3
     have E7:=Lib.hid e7
     obtain⟨a0,q0,f0⟩:=Z1 (o9.own.own 0 (by omega))
     obtain⟨a1,q1,f1⟩:=Z1 (o9.own.own 1 (by omega))
     obtain⟨a2,q2,f2⟩:=Z1 (o9.own.own 2 (by omega))
     obtain⟨a3,q3,f3⟩:=Z1 (o9.own.own 3 (by omega))
     obtain⟨a4,q4,f4⟩:=Z1 (o9.own.own 4 (by omega))
     have hfl:hpC g' x9= #[.int .u64 g'.base,.int .i64 g'.cap,.int .i64 g'.to,.bool g'.cycle,.int .i64 g'.scan,.slice a0 (lsH g' 0).length q0,.slice a1 (lsH g' 1).length q1,.slice a2 (lsH g' 2).length q2,.slice a3 (lsH g' 3).length q3,.slice a4 (lsH g' 4).length q4]:=by
      unfold hpC
      rw[f0,f1,f2,f3,f4]
     rw[hfl]at e47
     have HFL:=Lib.hid (And.intro hfl (And.intro e47 o9))
     clear hc3 o9 f0 f1 f2 f3 f4 hfl
     go_wp2
     try simp only[QN]
     refine⟨setV (setV v 7 (.pointer (some ⟨c7,0,none⟩))) 47 (.agg #[.int .u64 g'.base,.int .i64 g'.cap,.int .i64 g'.to,.bool g'.cycle,.int .i64 g'.scan,.slice a0 (lsH g' 0).length q0,.slice a1 (lsH g' 1).length q1,.slice a2 (lsH g' 2).length q2,.slice a3 (lsH g' 3).length q3,.slice a4 (lsH g' 4).length q4]),rfl,?_⟩
     rw[Zg (v:=v) E7.out,Zg (v:=v) HFL.out.2.1]
     refine HX.out.store E7.out HFL.out.2.2 (hj 11 (by decide)) hi H3.out (fun b hb=> ?_) ?_ ?_ ?_
     ·exact Ys hb _ _ _ _ _ _ _ _ _ _
     ·simp[World.setCell]
     ·rw[HFL.out.1];exact TH H3.out _ _ _ _ _ _ _ _ _ _
     ·exact Zi (Below.refl _ _) hc1 _ _ _ _ _ _ _ _ _ _
    ·cases ho
     have e0:v 48= .int .i64 0:=HX.out.z 10 (.inl rfl) (hj 10 (by decide))
     have E0:=Lib.hid e0
     go_wp2
     try simp only[QN]
     refine⟨setV (setV v 48 (.int .i64 0)) 8 (.int .i64 0),rfl,?_⟩
     rw[Zg (v:=v) E0.out]
     exact HX.out.pz 14 (.inr rfl) rfl
   ·intro L v W1 hL C
    have e6:v 6= .int .u64 fv:=C.f 12 (.inr rfl) (hL 12 (by decide))
    have e8:v 8= .int .i64 0:=C.z 14 (.inr rfl) (hL 14 (by decide))
    obtain⟨c7,x9,e7,hb7,o9⟩:=C.put (hL 13 (by decide))
    have hbel:=C.b
    have hsz:=hbel.size
    have hgl':g'.roots.length=h.roots.length:=by rw[HM.out.2.1,HM.out.2.2.2.2.2]
    obtain⟨a0,q0,f0⟩:=Z1 (o9.own.own 0 (by omega))
    obtain⟨a1,q1,f1⟩:=Z1 (o9.own.own 1 (by omega))
    obtain⟨a2,q2,f2⟩:=Z1 (o9.own.own 2 (by omega))
    obtain⟨a3,q3,f3⟩:=Z1 (o9.own.own 3 (by omega))
    obtain⟨a4,q4,f4⟩:=Z1 (o9.own.own 4 (by omega))
    obtain⟨g4,rfl⟩:=YA (o9.own.own 4 (by omega)) f4 (by show 0<g'.roots.length;omega)
    rw[show(lsH g' 4).length=g'.roots.length from rfl,hgl']at f4
    have hfl:hpC g' x9= #[.int .u64 g'.base,.int .i64 g'.cap,.int .i64 g'.to,.bool g'.cycle,.int .i64 g'.scan,.slice a0 (lsH g' 0).length q0,.slice a1 (lsH g' 1).length q1,.slice a2 (lsH g' 2).length q2,.slice a3 (lsH g' 3).length q3,.slice (some ⟨g4,0,none⟩) h.roots.length q4]:=by
     unfold hpC
     rw[f0,f1,f2,f3,f4]
    rw[hfl]at hb7
    have hbc:=(hbel.block c hcl).trans HM.out.2.2.2.2.1
    have y7: ∀j,W1.cell? ⟨c7,j,none⟩=(#[.int .u64 g'.base,.int .i64 g'.cap,.int .i64 g'.to,.bool g'.cycle,.int .i64 g'.scan,.slice a0 (lsH g' 0).length q0,.slice a1 (lsH g' 1).length q1,.slice a2 (lsH g' 2).length q2,.slice a3 (lsH g' 3).length q3,.slice (some ⟨g4,0,none⟩) h.roots.length q4]:Array Value)[j]? :=fun j=>cell_of_row _ _ _ _ _ _ hb7
    have yd: ∀j,W1.cell? ⟨c,j,none⟩=(#[.int .u64 g.base,.int .i64 g.cap,.int .i64 g.to,.bool g.cycle,.int .i64 g.scan,x 0,x 1,x 2,x 3,.slice (some ⟨gb,go,none⟩) h.roots.length cap]:Array Value)[j]? :=fun j=>cell_of_row _ _ _ _ _ _ hbc
    have fd: ∀j,W1.frozen? ⟨c,j,none⟩=false:=fun j=>Zb hbc
    have HO:=Lib.hid (And.intro o9.own (And.intro hbel (And.intro hfl (And.intro f4 (And.intro hgl' hbc)))))
    have hg4:W.heap.size≤g4∧g4<W1.heap.size:=(o9.own.own 4 (by omega)).lt g4 (by rw[f4];rfl)
    clear C o9 hbel hfl f0 f1 f2 f3 f4 hgl' hb7 hbc hL
    simp only[putF,putL,List.map_cons,List.map_nil,List.foldl_cons,List.foldl_nil,List.setIfInBounds_toArray,List.set_cons_succ,List.set_cons_zero]
    go_upto_region 12 with fail
    obtain⟨W2,hW2⟩: ∃W2,W2=((((((((((W1.setCell ⟨c,0,none⟩ (.int .u64 g'.base)).setCell ⟨c,1,none⟩ (.int .i64 g'.cap)).setCell ⟨c,2,none⟩ (.int .i64 g'.to)).setCell ⟨c,3,none⟩ (.bool g'.cycle)).setCell ⟨c,4,none⟩ (.int .i64 g'.scan)).setCell ⟨c,5,none⟩ (.slice a0 (lsH g' 0).length q0)).setCell ⟨c,6,none⟩ (.slice a1 (lsH g' 1).length q1)).setCell ⟨c,7,none⟩ (.slice a2 (lsH g' 2).length q2)).setCell ⟨c,8,none⟩ (.slice a3 (lsH g' 3).length q3)).setCell ⟨c,9,none⟩ (.slice (some ⟨g4,0,none⟩) h.roots.length q4)):=⟨_,rfl⟩
    rw[←hW2]
    have hb2:W2.heap[c]? =some (.cells #[.int .u64 g'.base,.int .i64 g'.cap,.int .i64 g'.to,.bool g'.cycle,.int .i64 g'.scan,.slice a0 (lsH g' 0).length q0,.slice a1 (lsH g' 1).length q1,.slice a2 (lsH g' 2).length q2,.slice a3 (lsH g' 3).length q3,.slice (some ⟨g4,0,none⟩) h.roots.length q4] 25 (0,0)):=by rw[hW2];exact jV HO.out.2.2.2.2.2 _ _ _ _ _ _ _ _ _ _
    have hot: ∀b,b≠c→W2.heap[b]? =W1.heap[b]? :=fun b hb=>by rw[hW2];exact Ys hb _ _ _ _ _ _ _ _ _ _
    have hz2:W2.heap.size=W1.heap.size:=by rw[hW2];simp[World.setCell]
    have hbl2:Below w.heap.size W1 W2:=by rw[hW2];exact Zi (Below.refl _ _) (by have:=HIH.out.le;omega) _ _ _ _ _ _ _ _ _ _
    clear hW2
    have hown2:HOwn W.heap.size W2 g' x9:=⟨fun j hj=>Zo (HO.out.1.own j hj) fun b hb=>hot b (by have:=((HO.out.1.own j hj).lt b hb).1;omega),HO.out.1.apart⟩
    have ho4:=hown2.own 4 (by omega)
    rw[HO.out.2.2.2.1,show(lsH g' 4).length=h.roots.length from HO.out.2.2.2.2.1]at ho4
    have y2: ∀j,W2.cell? ⟨c,j,none⟩=(#[.int .u64 g'.base,.int .i64 g'.cap,.int .i64 g'.to,.bool g'.cycle,.int .i64 g'.scan,.slice a0 (lsH g' 0).length q0,.slice a1 (lsH g' 1).length q1,.slice a2 (lsH g' 2).length q2,.slice a3 (lsH g' 3).length q3,.slice (some ⟨g4,0,none⟩) h.roots.length q4]:Array Value)[j]? :=fun j=>cell_of_row _ _ _ _ _ _ hb2
    obtain⟨z0,hz0⟩: ∃z0,g'.roots[k]? =some z0:=⟨_,List.getElem?_eq_getElem (by rw[HO.out.2.2.2.2.1];exact hlt)⟩
    have ec:W2.cell? ⟨g4,k,none⟩=some (.int .u64 z0):=by
     rw[ho4.cellAt k (by omega)]
     simp[nums,lsH,hz0]
    have ef:W2.frozen? ⟨g4,k,none⟩=false:=ho4.frozenAt k
    have wk:=Z4 ((k:Int)+1) (by have:=HH.out.roots;omega) (by have:=HH.out.roots;omega)
    have HQ:=Lib.hid (And.intro hb2 (And.intro hot (And.intro hz2 (And.intro hbl2 (And.intro hown2 ho4)))))
    clear hb2 hot hz2 hbl2 hown2 ho4 y7 yd fd hz0
    go_wp2
    go_step3
    simp only[Exit.then,Exit.inBlock]
    refine⟨rfl,⟨c,k+1,x9,rfl,rfl,rfl,rfl,?_,by omega,?_⟩,?_⟩
    ·show Value.int .i64 ((k:Int)+1)=_
     congr 1
    ·rw[HM.out.1]
     obtain⟨hb2,hot,hz2,hbl2,hown2,ho4⟩:=HQ.out
     obtain⟨hs1,hs2⟩:=ho4.stored k (.int .u64 fv)
     have hg4c:g4≠c:=by omega
     have oth: ∀b,b≠g4→(W2.setCell ⟨g4,k,none⟩ (.int .u64 fv)).heap[b]? =W2.heap[b]? :=fun b hb=>Below.heap_setCell _ _ _ _ hb
     have hz3:(W2.setCell ⟨g4,k,none⟩ (.int .u64 fv)).heap.size=W2.heap.size:=by simp[World.setCell]
     have hle:=HIH.out.le
     have hrb:=HIH.out.rb
     refine⟨(HIH.out.below.trans ((HO.out.2.1.mono HIH.out.below.size).trans hbl2)).setCell (by show w.heap.size≤g4;have:=HIH.out.below.size;omega) _,?_,hle,?_,fun j hj=> ?_⟩
     ·have:=Zy hrb
      rw[oth _ (by omega),hot _ (by omega),HO.out.2.1.block _ this]
      exact hrb
     ·rw[oth c (by omega),hb2,←HO.out.2.2.1]
      rfl
     ·have hin: ∀b,W.heap.size≤b→b< (W2.setCell ⟨g4,k,none⟩ (.int .u64 fv)).heap.size→w.heap.size+2≤b∧b< (W2.setCell ⟨g4,k,none⟩ (.int .u64 fv)).heap.size∧b≠c:=fun b h1 h2=>⟨by omega,h2,by omega⟩
      by_cases e:j=4
      ·subst e
       have hn:nums .u64 (g'.roots.set k fv)=(nums .u64 (lsH g' 4)).set k (.int .u64 fv):=RC _ _ _ _
       rw[←hn]at hs1
       show Rd _ _ (.sl ((g'.roots.set k fv).map vu)) (x9 4)
       rw[HO.out.2.2.2.1]
       have hl4:h.roots.length=(g'.roots.set k fv).length:=by rw[List.length_set,HO.out.2.2.2.2.1]
       have hs3:(W2.setCell ⟨g4,k,none⟩ (.int .u64 fv)).ownsRow W.heap.size 22 1 (.slice (some ⟨g4,0,none⟩) h.roots.length q4) (g'.roots.set k fv).length (nums .u64 (g'.roots.set k fv)):=by rw[←hl4];exact hs1
       exact Lm hs3 hin
      ·have hj4:lsH {g' with roots:=g'.roots.set k fv} j=lsH g' j:=by
        have:j=0∨j=1∨j=2∨j=3:=by omega
        rcases this with rfl|rfl|rfl|rfl<;>rfl
       rw[hj4]
       refine Lm (Zo (hown2.own j hj) fun b hb=>oth b fun e2=> ?_) hin
       exact hown2.apart j 4 (by omega) (by omega) b hb (by rw[e2,HO.out.2.2.2.1];rfl)
    ·simp[intOf]
     omega
  ·have hkn:k=h.roots.length:=by omega
   subst hkn
   obtain⟨q,I⟩:=VT HRT.out HC.out h.roots.length (Nat.le_refl _)
   have hgl:(WD (Yv h) h.roots.length).roots.length=h.roots.length:=I.len
   clear I
   have hfl:V8 h=Wk (WD (Yv h) h.roots.length):=rfl
   rw[hfl]
   clear hfl
   generalize WD (Yv h) h.roots.length=g at*
   obtain⟨a0,q0,f0⟩:=Rd.slfT (HIH.out.rd 0 (by omega))
   obtain⟨a1,q1,f1⟩:=Rd.slfT (HIH.out.rd 1 (by omega))
   obtain⟨a2,q2,f2⟩:=Rd.slfT (HIH.out.rd 2 (by omega))
   obtain⟨a3,q3,f3⟩:=Rd.slfT (HIH.out.rd 3 (by omega))
   obtain⟨a4,q4,f4⟩:=Rd.slfT (HIH.out.rd 4 (by omega))
   rw[List.length_map,show(lsH g 0).length=g.low.length from rfl]at f0
   rw[List.length_map,show(lsH g 1).length=g.high.length from rfl]at f1
   rw[List.length_map,show(lsH g 2).length=g.old.length from rfl]at f2
   rw[List.length_map,show(lsH g 3).length=g.far.length from rfl]at f3
   rw[List.length_map,show(lsH g 4).length=g.roots.length from rfl,hgl]at f4
   have hnb:=HIH.out.nb
   have hpc:hpC g x= #[.int .u64 g.base,.int .i64 g.cap,.int .i64 g.to,.bool g.cycle,.int .i64 g.scan,.slice a0 g.low.length q0,.slice a1 g.high.length q1,.slice a2 g.old.length q2,.slice a3 g.far.length q3,.slice a4 h.roots.length q4]:=by
    unfold hpC
    rw[f0,f1,f2,f3,f4]
   rw[hpc]at hnb
   have hrb:=HIH.out.rb
   have hle:=HIH.out.le
   have hcl:=Zy hnb
   have yc: ∀j,W.cell? ⟨c,j,none⟩=(#[.int .u64 g.base,.int .i64 g.cap,.int .i64 g.to,.bool g.cycle,.int .i64 g.scan,.slice a0 g.low.length q0,.slice a1 g.high.length q1,.slice a2 g.old.length q2,.slice a3 g.far.length q3,.slice a4 h.roots.length q4]:Array Value)[j]? :=fun j=>cell_of_row _ _ _ _ _ _ hnb
   have fc: ∀j,W.frozen? ⟨c,j,none⟩=false:=fun j=>Zb hnb
   have yz: ∀j,W.cell? ⟨w.heap.size+1,j,none⟩=Z2[j]? :=fun j=>cell_of_row _ _ _ _ _ _ hrb
   unfold Z2 at yz
   have fz: ∀j,W.frozen? ⟨w.heap.size+1,j,none⟩=false:=fun j=>Zb hrb
   have hne: ¬w.heap.size+1=c:=by omega
   have hne2: ¬c=w.heap.size+1:=by omega
   have HP:=Lib.hid (And.intro hpc (And.intro hnb (And.intro hrb (And.intro f0 (And.intro f1 (And.intro f2 (And.intro f3 f4)))))))
   clear hpc hnb hrb f0 f1 f2 f3 f4 hgl
   by_cases hlow:0<g.low.length
   ·have hlowI:((0:Int) < (g.low.length:Int))=True:=eq_true (by omega)
    go_wp2
    simp only[Exit.jump]
    obtain⟨W3,hW3⟩: ∃W3,W3=W.setCell ⟨c,3,none⟩ (.bool true):=⟨_,rfl⟩
    rw[←hW3]
    have oth: ∀b,b≠c→W3.heap[b]? =W.heap[b]? :=fun b hb=>by
     rw[hW3]
     simp[World.setCell,Array.getElem?_modify,Ne.symm hb]
    have hz3:W3.heap.size=W.heap.size:=by rw[hW3];simp[World.setCell]
    have bel3:Below w.heap.size W W3:=by
     rw[hW3]
     exact(Below.refl _ _).setCell (by show w.heap.size≤c;omega) _
    have y:=Zl ((oth _ hne).trans HP.out.2.2.1) (.int .u64 g.base) (.int .i64 g.cap) (.int .i64 g.to) (.bool true) (.int .i64 g.scan) (.slice a0 g.low.length q0) (.slice a1 g.high.length q1) (.slice a2 g.old.length q2) (.slice a3 g.far.length q3) (.slice a4 h.roots.length q4)
    have hfe:Wk g= {g with cycle:=true}:=if_pos hlow
    rw[hfe]
    clear hW3
    refine bodyPost_ret (v:= .tuple #[.agg #[.int .u64 g.base,.int .i64 g.cap,.int .i64 g.to,.bool true,.int .i64 g.scan,.slice a0 g.low.length q0,.slice a1 g.high.length q1,.slice a2 g.old.length q2,.slice a3 g.far.length q3,.slice a4 h.roots.length q4],.int .i64 0]) ?_ rfl ?_
    ·simp[results,Try.results17,go_sem,y]
    ·refine⟨x,?_,Zi (HIH.out.below.trans bel3) (by omega) _ _ _ _ _ _ _ _ _ _,fun j hj=> ?_⟩
     ·have e0:=HP.out.2.2.2.1
      have e1:=HP.out.2.2.2.2.1
      have e2:=HP.out.2.2.2.2.2.1
      have e3:=HP.out.2.2.2.2.2.2.1
      have e4:=HP.out.2.2.2.2.2.2.2
      rw[←e0,←e1,←e4,←e2,←e3]
      rfl
     ·have hl:lsH {g with cycle:=true} j=lsH g j:=rfl
      rw[hl]
      exact(HIH.out.rd j hj).keep (fun b hb=>(Ys (by have:=hb.1;omega) _ _ _ _ _ _ _ _ _ _).trans (oth b hb.2.2)) fun b hb=>⟨by have:=hb.1;omega,by simp[World.setCell,hz3];exact hb.2.1⟩
   ·have hlowI:((0:Int) < (g.low.length:Int))=False:=eq_false (by omega)
    go_wp2
    simp only[Exit.jump]
    obtain⟨W3,hW3⟩: ∃W3,W3=((W.setCell ⟨c,3,none⟩ (.bool false)).setCell ⟨c,7,none⟩ (.slice none 0 0)).setCell ⟨c,8,none⟩ (.slice none 0 0):=⟨_,rfl⟩
    rw[←hW3]
    have oth: ∀b,b≠c→W3.heap[b]? =W.heap[b]? :=fun b hb=>by
     rw[hW3]
     simp[World.setCell,Array.getElem?_modify,Ne.symm hb]
    have hz3:W3.heap.size=W.heap.size:=by rw[hW3];simp[World.setCell]
    have bel3:Below w.heap.size W W3:=by
     rw[hW3]
     exact(((Below.refl _ _).setCell (by show w.heap.size≤c;omega) _).setCell (by show w.heap.size≤c;omega) _).setCell (by show w.heap.size≤c;omega) _
    have y:=Zl ((oth _ hne).trans HP.out.2.2.1) (.int .u64 g.base) (.int .i64 g.cap) (.int .i64 g.to) (.bool false) (.int .i64 g.scan) (.slice a0 g.low.length q0) (.slice a1 g.high.length q1) (.slice none 0 0) (.slice none 0 0) (.slice a4 h.roots.length q4)
    have hfe:Wk g= {g with cycle:=false,old:= [],far:= []}:=if_neg hlow
    rw[hfe]
    clear hW3
    refine bodyPost_ret (v:= .tuple #[.agg #[.int .u64 g.base,.int .i64 g.cap,.int .i64 g.to,.bool false,.int .i64 g.scan,.slice a0 g.low.length q0,.slice a1 g.high.length q1,.slice none 0 0,.slice none 0 0,.slice a4 h.roots.length q4],.int .i64 0]) ?_ rfl ?_
    ·simp[results,Try.results17,go_sem,y]
    ·refine⟨(fun j=>if j=2∨j=3 then .slice none 0 0 else x j),?_,Zi (HIH.out.below.trans bel3) (by omega) _ _ _ _ _ _ _ _ _ _,fun j hj=> ?_⟩
     ·have e0:=HP.out.2.2.2.1
      have e1:=HP.out.2.2.2.2.1
      have e2:=HP.out.2.2.2.2.2.1
      have e3:=HP.out.2.2.2.2.2.2.1
      have e4:=HP.out.2.2.2.2.2.2.2
      rw[←e0,←e1,←e4]
      rfl
     ·have:j=2∨j=3∨(j≠2∧j≠3):=by omega
      rcases this with rfl|rfl| ⟨h2,h3⟩
      ·exact .nil _ _ (by unfold maxLen;omega)
      ·exact .nil _ _ (by unfold maxLen;omega)
      ·have hl:lsH {g with cycle:=false,old:= [],far:= []} j=lsH g j:=by
        have:j=0∨j=1∨j=4:=by omega
        rcases this with rfl|rfl|rfl<;>rfl
       rw[hl]
       simp only[h2,h3,or_self,if_false]
       exact(HIH.out.rd j hj).keep (fun b hb=>(Ys (by have:=hb.1;omega) _ _ _ _ _ _ _ _ _ _).trans (oth b hb.2.2)) fun b hb=>⟨by have:=hb.1;omega,by simp[World.setCell,hz3];exact hb.2.1⟩
 intro hrest
 go_upto_region 5 with (first
  | (go_at_call 33;refine(HR.out _ ?_).mono ?_;rotate_left;rintro e wa ⟨rfl,hba⟩
     have bA:wa.heap[w.heap.size]? =some (.cells #[.int .u64 h.base,.int .i64 h.cap,.int .i64 h.to,.bool false,.int .i64 h.scan,src 0,src 1,src 2,src 3,src 4] 25 (0,0)):=(hba.block _ (by simp;omega)).trans ((Below.heap_alloc _ _ _ (by simp)).trans (heap_alloc_new w _))
     have bZ:wa.heap[w.heap.size+1]? =some (.cells Z2 25 (0,0)):=(hba.block _ (by simp)).trans (ZR w _)
     have ya: ∀j,wa.cell? ⟨w.heap.size,j,none⟩=(#[.int .u64 h.base,.int .i64 h.cap,.int .i64 h.to,.bool false,.int .i64 h.scan,src 0,src 1,src 2,src 3,src 4]:Array Value)[j]? :=fun j=>cell_of_row _ _ _ _ _ _ bA
     have HBA:=Lib.hid hba
     have HBZ:=Lib.hid (And.intro bA bZ)
     clear hba bA bZ))
 case refine_1=>exact((Below.refl _ w).alloc (Nat.le_refl _) _).alloc (by simp) _
 have hba:Below w.heap.size w wa:=Below.trans (((Below.refl _ w).alloc (Nat.le_refl _) _).alloc (by simp) _) (HBA.out.mono (by simp;omega))
 have hsa:w.heap.size+2≤wa.heap.size:=by have:=HBA.out.size;simp at this;omega
 have HWA:=Lib.hid hba
 clear hba HBA
 have HSW:=Lib.hid (fun(W:World) (hW:Below wa.heap.size wa W) (j:Nat) (hj:j<5)=>(HS.out j hj).keep (fun b hb'=>(hW.block b (by have:=hG b hb';omega)).trans (HWA.out.block b (hG b hb'))) fun _ q=>q)
 refine Tr [16,17,18,19,20,21,22,23,24,25,26,27,28,29,30,31,32,4] (FlC wa w.heap.size h src) follows (by kernel_rfl) ⟨fun _=>undef,by simp only[putF,putL,List.map_cons,List.map_nil,List.foldl_cons,List.foldl_nil,List.setIfInBounds_toArray,List.set_cons_succ,List.set_cons_zero],?_⟩ ?_ ?_
 ·exact⟨(Below.refl _ _).drew,fun i _ h=>(by cases h),fun i _ h=>(by cases h),fun h=>(by cases h),fun h=>(by cases h),fun h=>(by cases h),fun h=>(by cases h)⟩
 ·intro L i o v W ho hi hj C
  have HC:=Lib.hid C
  have hz:wa.heap.size≤W.heap.size:=C.b.size
  have ya: ∀j,W.cell? ⟨w.heap.size,j,none⟩=(#[.int .u64 h.base,.int .i64 h.cap,.int .i64 h.to,.bool false,.int .i64 h.scan,src 0,src 1,src 2,src 3,src 4]:Array Value)[j]? :=fun j=>(C.b.cell (p:=⟨w.heap.size,j,none⟩) (by show w.heap.size<wa.heap.size;omega)).trans (ya j)
  clear C
  have h19:i<19:=(Array.getElem?_eq_some_iff.1 ho).1
  simp only[putF,putL,List.map_cons,List.map_nil,List.foldl_cons,List.foldl_nil,List.setIfInBounds_toArray,List.set_cons_succ,List.set_cons_zero]
  have:i=0∨i=1∨i=2∨i=3∨i=4∨i=5∨i=6∨i=7∨i=8∨i=9∨i=10∨i=11∨i=12∨i=13∨i=14∨i=15∨i=16∨i=17∨i=18:=by omega
  rcases this with rfl|rfl|rfl|rfl|rfl|rfl|rfl|rfl|rfl|rfl|rfl|rfl|rfl|rfl|rfl|rfl|rfl|rfl|rfl
  ·cases ho
   go_wp2
   try simp only[QN]
   exact⟨setV v 16 (flEx w.heap.size h src 0),rfl,HC.out.pure (by unfold flS;omega) rfl rfl⟩
  ·cases ho
   have e0:=HC.out.eq 0 (by unfold flS;omega) (hj 0 (by decide))
   have E0:=Lib.hid e0
   simp only[flEx]at e0
   go_wp2
   try simp only[QN]
   exact⟨setV (setV v 16 (flEx w.heap.size h src 0)) 17 (flEx w.heap.size h src 1),rfl,(by rw[Zg E0.out];exact HC.out.pure (by unfold flS;omega) rfl rfl)⟩
  ·cases ho
   go_wp2
   try simp only[QN]
   exact⟨setV v 18 (flEx w.heap.size h src 2),rfl,HC.out.pure (by unfold flS;omega) rfl rfl⟩
  ·cases ho
   have e0:=HC.out.eq 2 (by unfold flS;omega) (hj 2 (by decide))
   have E0:=Lib.hid e0
   simp only[flEx]at e0
   go_wp2
   try simp only[QN]
   exact⟨setV (setV v 18 (flEx w.heap.size h src 2)) 19 (flEx w.heap.size h src 3),rfl,(by rw[Zg E0.out];exact HC.out.pure (by unfold flS;omega) rfl rfl)⟩
  ·cases ho
   go_wp2
   try simp only[QN]
   exact⟨setV v 20 (flEx w.heap.size h src 4),rfl,HC.out.pure (by unfold flS;omega) rfl rfl⟩
  ·cases ho
   have e0:=HC.out.eq 4 (by unfold flS;omega) (hj 4 (by decide))
   have E0:=Lib.hid e0
   simp only[flEx]at e0
   go_wp2
   try simp only[QN]
   exact⟨setV (setV v 20 (flEx w.heap.size h src 4)) 21 (flEx w.heap.size h src 5),rfl,(by rw[Zg E0.out];exact HC.out.pure (by unfold flS;omega) rfl rfl)⟩
  ·cases ho
   have e0:=HC.out.eq 5 (by unfold flS;omega) (hj 5 (by decide))
   have E0:=Lib.hid e0
   simp only[flEx]at e0
   go_wp2
   try simp only[QN]
   exact⟨setV (setV v 21 (flEx w.heap.size h src 5)) 22 (flEx w.heap.size h src 6),rfl,(by rw[Zg E0.out];exact HC.out.pure (by unfold flS;omega) rfl rfl)⟩
  ·cases ho
   go_wp2
   try simp only[QN]
   exact⟨setV v 23 (flEx w.heap.size h src 7),rfl,HC.out.pure (by unfold flS;omega) rfl rfl⟩
  ·cases ho
   have e0:=HC.out.eq 7 (by unfold flS;omega) (hj 7 (by decide))
   have E0:=Lib.hid e0
   simp only[flEx]at e0
   go_wp2
   try simp only[QN]
   exact⟨setV (setV v 23 (flEx w.heap.size h src 7)) 24 (flEx w.heap.size h src 8),rfl,(by rw[Zg E0.out];exact HC.out.pure (by unfold flS;omega) rfl rfl)⟩
  ·cases ho
   have e0:=HC.out.eq 8 (by unfold flS;omega) (hj 8 (by decide))
   have E0:=Lib.hid e0
   simp only[flEx]at e0
   go_wp2_with (go_at_call 38;refine(Wb _ (l:=h.low) (G:=G) HH.out.low (HSW.out _ HC.out.b 0 (by omega))).mono ?_;rintro e w9 ⟨y,rfl,hb9,hr9⟩;have HB9:=Lib.hid (And.intro hb9 hr9);clear hb9 hr9)
   try simp only[QN]
   exact⟨setV (setV v 24 (flEx w.heap.size h src 8)) 25 y,rfl,(by rw[Zg E0.out];exact HC.out.call (by unfold flR;omega) rfl HB9.out.1 HB9.out.2)⟩
  ·cases ho
   go_wp2
   try simp only[QN]
   exact⟨setV v 26 (flEx w.heap.size h src 10),rfl,HC.out.pure (by unfold flS;omega) rfl rfl⟩
  ·cases ho
   have e0:=HC.out.eq 10 (by unfold flS;omega) (hj 10 (by decide))
   have E0:=Lib.hid e0
   simp only[flEx]at e0
   go_wp2
   try simp only[QN]
   exact⟨setV (setV v 26 (flEx w.heap.size h src 10)) 27 (flEx w.heap.size h src 11),rfl,(by rw[Zg E0.out];exact HC.out.pure (by unfold flS;omega) rfl rfl)⟩
  ·cases ho
   have e0:=HC.out.eq 11 (by unfold flS;omega) (hj 11 (by decide))
   have E0:=Lib.hid e0
   simp only[flEx]at e0
   go_wp2_with (go_at_call 38;refine(Wb _ (l:=h.high) (G:=G) HH.out.high (HSW.out _ HC.out.b 1 (by omega))).mono ?_;rintro e w9 ⟨y,rfl,hb9,hr9⟩;have HB9:=Lib.hid (And.intro hb9 hr9);clear hb9 hr9)
   try simp only[QN]
   exact⟨setV (setV v 27 (flEx w.heap.size h src 11)) 28 y,rfl,(by rw[Zg E0.out];exact HC.out.call (by unfold flR;omega) rfl HB9.out.1 HB9.out.2)⟩
  ·cases ho
   go_wp2
   try simp only[QN]
   exact⟨setV v 29 (flEx w.heap.size h src 13),rfl,HC.out.pure (by unfold flS;omega) rfl rfl⟩
  ·cases ho
   have e0:=HC.out.eq 13 (by unfold flS;omega) (hj 13 (by decide))
   have E0:=Lib.hid e0
   simp only[flEx]at e0
   go_wp2
   try simp only[QN]
   exact⟨setV (setV v 29 (flEx w.heap.size h src 13)) 30 (flEx w.heap.size h src 14),rfl,(by rw[Zg E0.out];exact HC.out.pure (by unfold flS;omega) rfl rfl)⟩
  ·cases ho
   have e0:=HC.out.eq 14 (by unfold flS;omega) (hj 14 (by decide))
   have E0:=Lib.hid e0
   simp only[flEx]at e0
   go_wp2_with (go_at_call 38;refine(Wb _ (l:=h.roots) (G:=G) HH.out.roots (HSW.out _ HC.out.b 4 (by omega))).mono ?_;rintro e w9 ⟨y,rfl,hb9,hr9⟩;have HB9:=Lib.hid (And.intro hb9 hr9);clear hb9 hr9)
   try simp only[QN]
   exact⟨setV (setV v 30 (flEx w.heap.size h src 14)) 31 y,rfl,(by rw[Zg E0.out];exact HC.out.call (by unfold flR;omega) rfl HB9.out.1 HB9.out.2)⟩
  ·cases ho
   have e0:=HC.out.eq 1 (by unfold flS;omega) (hj 1 (by decide))
   have E0:=Lib.hid e0
   simp only[flEx]at e0
   have e1:=HC.out.eq 3 (by unfold flS;omega) (hj 3 (by decide))
   have E1:=Lib.hid e1
   simp only[flEx]at e1
   have e2:=HC.out.eq 6 (by unfold flS;omega) (hj 6 (by decide))
   have E2:=Lib.hid e2
   simp only[flEx]at e2
   obtain⟨a9,c9,f9⟩:=Rd.slfT (HC.out.rd 9 (by unfold flR;omega) (hj 9 (by decide)))
   rw[show(List.map vu (flX h 9)).length=h.low.length from List.length_map _]at f9
   simp only[Nat.reduceAdd]at f9
   have F9:=Lib.hid f9
   obtain⟨a12,c12,f12⟩:=Rd.slfT (HC.out.rd 12 (by unfold flR;omega) (hj 12 (by decide)))
   rw[show(List.map vu (flX h 12)).length=h.high.length from List.length_map _]at f12
   simp only[Nat.reduceAdd]at f12
   have F12:=Lib.hid f12
   obtain⟨a15,c15,f15⟩:=Rd.slfT (HC.out.rd 15 (by unfold flR;omega) (hj 15 (by decide)))
   rw[show(List.map vu (flX h 15)).length=h.roots.length from List.length_map _]at f15
   simp only[Nat.reduceAdd]at f15
   have F15:=Lib.hid f15
   go_wp2
   try simp only[QN]
   refine⟨setV (setV (setV (setV (setV (setV (setV v 17 (flEx w.heap.size h src 1)) 19 (flEx w.heap.size h src 3)) 22 (flEx w.heap.size h src 6)) 25 (.slice a9 h.low.length c9)) 28 (.slice a12 h.high.length c12)) 31 (.slice a15 h.roots.length c15)) 32 (.agg #[.int .u64 h.base,.int .i64 h.cap,.int .i64 (1-h.to),.bool false,.int .i64 0,.slice none 0 0,.slice none 0 0,.slice a9 h.low.length c9,.slice a12 h.high.length c12,.slice a15 h.roots.length c15]),rfl,?_⟩
   rw[Zg (v:=v) E0.out,Zg (v:=v) E1.out,Zg (v:=v) E2.out,Zg (v:=v) F9.out,Zg (v:=v) F12.out,Zg (v:=v) F15.out]
   have hx:((.agg #[.int .u64 h.base,.int .i64 h.cap,.int .i64 (1-h.to),.bool false,.int .i64 0,.slice none 0 0,.slice none 0 0,.slice a9 h.low.length c9,.slice a12 h.high.length c12,.slice a15 h.roots.length c15]):Value)= .agg (flA h fun i=>v (16+i)):=by
    unfold flA
    simp only[Nat.reduceAdd]
    rw[F9.out,F12.out,F15.out]
   rw[hx]
   exact HC.out.built (hj 9 (by decide)) (hj 12 (by decide)) (hj 15 (by decide))
  ·cases ho
   go_wp2
   try simp only[QN]
   exact⟨setV v 4 (.pointer (some ⟨W.heap.size,0,none⟩)),rfl,HC.out.alloc hi⟩
  ·cases ho
   obtain⟨c,e4,hc1,hc2,hc3⟩:=HC.out.new (hj 17 (by decide))
   obtain⟨y,e32,hy⟩:=HC.out.agg (hj 16 (by decide))
   have hc3:=hc3 hi
   have y4: ∀j,W.cell? ⟨c,j,none⟩=Z2[j]? :=fun j=>cell_of_row _ _ _ _ _ _ hc3
   unfold Z2 at y4
   have y5: ∀j,W.frozen? ⟨c,j,none⟩=false:=fun j=>Zb hc3
   have H3:=Lib.hid hc3
   have E4:=Lib.hid e4
   have E32:=Lib.hid e32
   obtain⟨a9,c9,f9⟩:=Rd.slfT (hy 9 (by unfold flR;omega))
   obtain⟨a12,c12,f12⟩:=Rd.slfT (hy 12 (by unfold flR;omega))
   obtain⟨a15,c15,f15⟩:=Rd.slfT (hy 15 (by unfold flR;omega))
   rw[show(List.map vu (flX h 9)).length=h.low.length from List.length_map _]at f9
   rw[show(List.map vu (flX h 12)).length=h.high.length from List.length_map _]at f12
   rw[show(List.map vu (flX h 15)).length=h.roots.length from List.length_map _]at f15
   have hfl:flA h y= #[.int .u64 h.base,.int .i64 h.cap,.int .i64 (1-h.to),.bool false,.int .i64 0,.slice none 0 0,.slice none 0 0,.slice a9 h.low.length c9,.slice a12 h.high.length c12,.slice a15 h.roots.length c15]:=by
    unfold flA
    rw[f9,f12,f15]
   rw[hfl]at e32
   have HFL:=Lib.hid (And.intro hfl e32)
   clear hc3 hy f9 f12 f15 hfl
   go_wp2
   try simp only[QN]
   refine⟨setV (setV v 4 (.pointer (some ⟨c,0,none⟩))) 32 (.agg #[.int .u64 h.base,.int .i64 h.cap,.int .i64 (1-h.to),.bool false,.int .i64 0,.slice none 0 0,.slice none 0 0,.slice a9 h.low.length c9,.slice a12 h.high.length c12,.slice a15 h.roots.length c15]),rfl,?_⟩
   rw[Zg (v:=v) E4.out,Zg HFL.out.2]
   refine HC.out.store E4.out E32.out (hj 17 (by decide)) (hj 16 (by decide)) hi H3.out (fun b hb=> ?_) ?_ ?_ ?_
   ·exact Ys hb _ _ _ _ _ _ _ _ _ _
   ·simp[World.setCell]
   ·rw[HFL.out.1];exact TH H3.out _ _ _ _ _ _ _ _ _ _
   ·exact Zi (Below.refl _ _) hc1 _ _ _ _ _ _ _ _ _ _
 ·intro L v W hL C
  obtain⟨c,y,e4,hc1,hcb,hy⟩:=C.put (hL 18 (by decide))
  have HCB:=Lib.hid C.b
  have HY:=Lib.hid (And.intro hcb hy)
  have HRS:=Lib.hid hrest
  have H17:=Lib.hid (And.intro (hL 17 (by decide)) e4)
  clear C hcb hy hL hrest
  simp only[putF,putL,List.map_cons,List.map_nil,List.foldl_cons,List.foldl_nil,List.setIfInBounds_toArray,List.set_cons_succ,List.set_cons_zero]
  go_wp2
  go_step3
  simp only[Exit.then]
  rename_i hKK
  refine hKK _ _ (HRS.out _ _ ?_)
  refine⟨c,0,fun j=>if j=2 then y 9 else if j=3 then y 12 else if j=4 then y 15 else .slice none 0 0,rfl,rfl,rfl,H17.out.2,rfl,Nat.zero_le _,?_⟩
  have hsz:=HCB.out.size
  have hG: ∀b,flG wa W L v b→w.heap.size+2≤b∧b<W.heap.size∧b≠c:=fun b hb=>⟨by have:=hb.1;omega,hb.2.1,fun e=>hb.2.2 H17.out.1 (by rw[e];exact H17.out.2)⟩
  refine⟨HWA.out.trans (HCB.out.mono (by omega)),(HCB.out.block _ (by omega)).trans HBZ.out.2,by omega,HY.out.1,fun j hj=> ?_⟩
  have:j=0∨j=1∨j=2∨j=3∨j=4:=by omega
  rcases this with rfl|rfl|rfl|rfl|rfl
  ·exact .nil _ _ (by unfold maxLen;omega)
  ·exact .nil _ _ (by unfold maxLen;omega)
  ·exact(HY.out.2 9 (by unfold flR;omega)).mono hG
  ·exact(HY.out.2 12 (by unfold flR;omega)).mono hG
  ·exact(HY.out.2 15 (by unfold flR;omega)).mono hG
end Vm
end
section
namespace Vm
open Go
open Go.Proofs
set_option maxRecDepth 100000
def p3:Fn:=⟨24,[0,1,2,3,4,5,6,10,11,12,13,25,14,15,67,66,68,17,65,18,19,20,21,97],
(.seq
(.reg ⟨[],[],[(5,.m [(.fld (.sz (.s 0) 10) 0),(.fld (.sz (.s 0) 10) 1),(.fld (.sz (.s 0) 10) 2),(.fld (.sz (.s 0) 10) 3),(.fld (.sz (.s 0) 10) 4),(.fld (.sz (.s 0) 10) 5),(.fld (.sz (.s 0) 10) 6),(.fld (.sz (.s 0) 10) 7),(.fld (.sz (.s 0) 10) 8),(.fld (.sz (.s 0) 10) 9)]),(6,.m [(.fld (.sz (.s 1) 7) 0),(.fld (.sz (.s 1) 7) 1),(.fld (.sz (.s 1) 7) 2),(.fld (.sz (.s 1) 7) 3),(.fld (.sz (.s 1) 7) 4),(.fld (.sz (.s 1) 7) 5),(.fld (.sz (.s 1) 7) 6)]),(7,.v (.c (.bool false)))]⟩)
(.seq
(.reg ⟨[.call 24 [] (.id 11) false false []],[],[(8,.v (.s 24))]⟩)
(.seq
(.reg ⟨[],[],[(9,.m [(.fld (.mm 5 0 10) 0),(.fld (.mm 5 0 10) 1),(.fld (.mm 5 0 10) 2),(.fld (.mm 5 0 10) 3),(.fld (.mm 5 0 10) 4),(.fld (.mm 5 0 10) 5),(.fld (.mm 5 0 10) 6),(.fld (.mm 5 0 10) 7),(.fld (.mm 5 0 10) 8),(.fld (.mm 5 0 10) 9)])]⟩)
(.seq
(.seq
(.reg ⟨[],[],[(10,.v (.c (.int .i64 (1))))]⟩)
(.block 0
 (.loop [0,1,2,3,4,5,6,7,8,9,10]
  (.seq
  (.seq
  (.reg ⟨[],[],[(11,.v (.bin .leq (.s 10) (.c (.int .i64 (4)))))]⟩)
  (.cond (.s 11)
   .skip
   (.exit 0)))
  (.seq
  (.block 1
   (.reg ⟨[.call 25 [] (.id 13) false false [(.mm 9 0 10),(.s 10)],.call 26 [] (.id 13) false false [(.mm 9 0 10),(.s 10)],.call 27 [] (.id 12) false false [(.mm 9 0 10),(.s 10),(.slc (.s 25) (.c (.int .i64 (0))) (.mn (.len (.s 26)) (.c (.int .i64 (12)))) 1)]],[],[(9,.m [(.fld (.sz (.s 27) 10) 0),(.fld (.sz (.s 27) 10) 1),(.fld (.sz (.s 27) 10) 2),(.fld (.sz (.s 27) 10) 3),(.fld (.sz (.s 27) 10) 4),(.fld (.sz (.s 27) 10) 5),(.fld (.sz (.s 27) 10) 6),(.fld (.sz (.s 27) 10) 7),(.fld (.sz (.s 27) 10) 8),(.fld (.sz (.s 27) 10) 9)])]⟩))
  (.reg ⟨[],[],[(10,.v (.bin .add (.s 10) (.c (.int .i64 (1)))))]⟩))))))
(.seq
(.reg ⟨[],[],[(9,.m [(.m 9 0),(.m 9 1),(.m 9 2),(.m 9 3),(.m 9 4),(.m 9 5),(.m 9 6),(.m 9 7),(.m 9 8),(.slc (.m 5 9) (.c (.int .i64 (0))) (.mn (.len (.m 5 9)) (.c (.int .i64 (20)))) 1)])]⟩)
(.seq
(.reg ⟨[.call 28 [] (.id 14) false false [(.mm 6 0 7)]],[],[(12,.m [(.fld (.sz (.s 28) 10) 0),(.fld (.sz (.s 28) 10) 1),(.fld (.sz (.s 28) 10) 2),(.fld (.sz (.s 28) 10) 3),(.fld (.sz (.s 28) 10) 4),(.fld (.sz (.s 28) 10) 5),(.fld (.sz (.s 28) 10) 6),(.fld (.sz (.s 28) 10) 7),(.fld (.sz (.s 28) 10) 8),(.fld (.sz (.s 28) 10) 9)])]⟩)
(.seq
(.reg ⟨[.call 29 [] (.id 15) false false [(.mm 6 0 7)]],[],[(13,.m [(.fld (.sz (.s 29) 10) 0),(.fld (.sz (.s 29) 10) 1),(.fld (.sz (.s 29) 10) 2),(.fld (.sz (.s 29) 10) 3),(.fld (.sz (.s 29) 10) 4),(.fld (.sz (.s 29) 10) 5),(.fld (.sz (.s 29) 10) 6),(.fld (.sz (.s 29) 10) 7),(.fld (.sz (.s 29) 10) 8),(.fld (.sz (.s 29) 10) 9)])]⟩)
(.seq
(.seq
(.reg ⟨[.call 30 [] (.id 16) false false [(.mm 12 0 10),(.s 2),(.s 3),(.s 4)],.call 31 [] (.id 16) false false [(.mm 13 0 10),(.s 2),(.s 3),(.s 4)]],[],[(14,.v (.c (.int .i64 (0)))),(15,.v (.len (.lit [(.mm 9 0 10),(.mm 12 0 10),(.mm 13 0 10),(.sz (.s 30) 10),(.sz (.s 31) 10)]))),(18,.v (.lit [(.mm 9 0 10),(.mm 12 0 10),(.mm 13 0 10),(.sz (.s 30) 10),(.sz (.s 31) 10)]))]⟩)
(.block 2
 (.loop [0,1,2,3,4,5,6,7,8,9,10,11,12,13,14,15,18]
  (.seq
  (.reg ⟨[],[],[(16,.v (.bin .lss (.s 14) (.s 15)))]⟩)
  (.seq
  (.cond (.s 16)
   .skip
   (.exit 2))
  (.seq
  (.block 3
   (.seq
   (.reg ⟨[],[],[(17,.m [(.fld (.flds (.idx (.s 18) (.s 14) 10) 0 10) 0),(.fld (.flds (.idx (.s 18) (.s 14) 10) 0 10) 1),(.fld (.flds (.idx (.s 18) (.s 14) 10) 0 10) 2),(.fld (.flds (.idx (.s 18) (.s 14) 10) 0 10) 3),(.fld (.flds (.idx (.s 18) (.s 14) 10) 0 10) 4),(.fld (.flds (.idx (.s 18) (.s 14) 10) 0 10) 5),(.fld (.flds (.idx (.s 18) (.s 14) 10) 0 10) 6),(.fld (.flds (.idx (.s 18) (.s 14) 10) 0 10) 7),(.fld (.flds (.idx (.s 18) (.s 14) 10) 0 10) 8),(.fld (.flds (.idx (.s 18) (.s 14) 10) 0 10) 9)])]⟩)
   (.seq
   (.reg ⟨[.call 32 [] (.id 17) false false [(.mm 17 0 10)]],[],[(19,.m [(.fld (.sz (.ext (.s 32) 0) 10) 0),(.fld (.sz (.ext (.s 32) 0) 10) 1),(.fld (.sz (.ext (.s 32) 0) 10) 2),(.fld (.sz (.ext (.s 32) 0) 10) 3),(.fld (.sz (.ext (.s 32) 0) 10) 4),(.fld (.sz (.ext (.s 32) 0) 10) 5),(.fld (.sz (.ext (.s 32) 0) 10) 6),(.fld (.sz (.ext (.s 32) 0) 10) 7),(.fld (.sz (.ext (.s 32) 0) 10) 8),(.fld (.sz (.ext (.s 32) 0) 10) 9)]),(20,.v (.ext (.s 32) 1))]⟩)
   (.seq
   (.reg ⟨[.call 33 [] (.id 18) false false [(.mm 17 0 10)]],[],[(21,.m [(.fld (.sz (.ext (.s 33) 0) 10) 0),(.fld (.sz (.ext (.s 33) 0) 10) 1),(.fld (.sz (.ext (.s 33) 0) 10) 2),(.fld (.sz (.ext (.s 33) 0) 10) 3),(.fld (.sz (.ext (.s 33) 0) 10) 4),(.fld (.sz (.ext (.s 33) 0) 10) 5),(.fld (.sz (.ext (.s 33) 0) 10) 6),(.fld (.sz (.ext (.s 33) 0) 10) 7),(.fld (.sz (.ext (.s 33) 0) 10) 8),(.fld (.sz (.ext (.s 33) 0) 10) 9)]),(22,.v (.ext (.s 33) 1))]⟩)
   (.seq
   (.reg ⟨[.lt 34 [] (.bin .neq (.s 20) (.s 22)),.call 35 [(34,false)] (.id 19) false false [(.mm 19 0 10),(.mm 21 0 10)],.lt 36 [] (.ite (.s 34) (.c (.bool true)) (.un .not (.s 35))),.call 37 [(36,false)] (.id 20) false false [(.mm 17 0 10)],.call 38 [(36,false)] (.id 21) false false [(.mm 17 0 10)],.call 39 [(36,false)] (.id 19) false false [(.s 37),(.s 38)]],[([(34,false)],(.un .not (.s 35))),([(36,false)],(.un .not (.s 39)))],[(23,.v (.ite (.s 36) (.c (.bool true)) (.un .not (.s 39))))]⟩)
   (.cond (.s 23)
    (.seq
    (.reg ⟨[],[],[(7,.v (.c (.bool false)))]⟩)
    .ret)
    .skip))))))
  (.reg ⟨[],[],[(14,.v (.bin .add (.s 14) (.c (.int .i64 (1)))))]⟩)))))))
(.seq
(.reg ⟨[],[],[(7,.v (.s 8))]⟩)
.ret))))))))),
[(7,.v)]⟩
theorem c3:Zf Try.prog fresh sig [.fz,.fz,.fz,.fz,.fz] [] Try.f3=some p3:=by kernel_rfl
def p4:Fn:=⟨14,[0,1,2,3,4,5,6,27,7,32,47,8,50,75],
(.seq
(.reg ⟨[],[],[(1,.m [(.fld (.sz (.s 0) 7) 0),(.fld (.sz (.s 0) 7) 1),(.fld (.sz (.s 0) 7) 2),(.fld (.sz (.s 0) 7) 3),(.fld (.sz (.s 0) 7) 4),(.fld (.sz (.s 0) 7) 5),(.fld (.sz (.s 0) 7) 6)]),(2,.v (.c (.bool false)))]⟩)
(.seq
(.reg ⟨[.call 14 [] (.id 11) false false []],[],[(3,.v (.s 14))]⟩)
(.seq
(.reg ⟨[.call 15 [] (.id 15) false false [(.mm 1 0 7)]],[],[(4,.m [(.fld (.sz (.s 15) 10) 0),(.fld (.sz (.s 15) 10) 1),(.fld (.sz (.s 15) 10) 2),(.fld (.sz (.s 15) 10) 3),(.fld (.sz (.s 15) 10) 4),(.fld (.sz (.s 15) 10) 5),(.fld (.sz (.s 15) 10) 6),(.fld (.sz (.s 15) 10) 7),(.fld (.sz (.s 15) 10) 8),(.fld (.sz (.s 15) 10) 9)])]⟩)
(.seq
(.reg ⟨[.call 16 [] (.id 17) false false [(.mm 4 0 10)]],[],[(5,.m [(.fld (.sz (.ext (.s 16) 0) 10) 0),(.fld (.sz (.ext (.s 16) 0) 10) 1),(.fld (.sz (.ext (.s 16) 0) 10) 2),(.fld (.sz (.ext (.s 16) 0) 10) 3),(.fld (.sz (.ext (.s 16) 0) 10) 4),(.fld (.sz (.ext (.s 16) 0) 10) 5),(.fld (.sz (.ext (.s 16) 0) 10) 6),(.fld (.sz (.ext (.s 16) 0) 10) 7),(.fld (.sz (.ext (.s 16) 0) 10) 8),(.fld (.sz (.ext (.s 16) 0) 10) 9)]),(6,.v (.ext (.s 16) 1))]⟩)
(.seq
(.seq
(.reg ⟨[.lt 17 [] (.bin .neq (.s 6) (.c (.int .i64 (0))))],[([(17,false)],(.bin .neq (.len (.m 5 9)) (.len (.m 4 9))))],[(7,.v (.ite (.s 17) (.c (.bool true)) (.bin .neq (.len (.m 5 9)) (.len (.m 4 9)))))]⟩)
(.cond (.s 7)
 (.seq
 (.reg ⟨[],[],[(2,.v (.c (.bool false)))]⟩)
 .ret)
 .skip))
(.seq
(.seq
(.reg ⟨[],[],[(8,.v (.c (.int .i64 (0))))]⟩)
(.block 0
 (.loop [0,1,2,3,4,5,6,7,8]
  (.seq
  (.seq
  (.reg ⟨[],[],[(9,.v (.bin .lss (.s 8) (.len (.m 4 9))))]⟩)
  (.cond (.s 9)
   .skip
   (.exit 0)))
  (.seq
  (.block 1
   (.seq
   (.seq
   (.reg ⟨[],[],[(10,.v (.eqv true (.bin .eql (.fld (.idx (.m 5 9) (.s 8) 1) 0) (.c (.int .u64 (0)))) (.bin .eql (.fld (.idx (.m 4 9) (.s 8) 1) 0) (.c (.int .u64 (0))))))]⟩)
   (.cond (.s 10)
    (.seq
    (.reg ⟨[],[],[(2,.v (.c (.bool false)))]⟩)
    .ret)
    .skip))
   (.seq
   (.reg ⟨[],[],[(11,.v (.c (.int .i64 (0))))]⟩)
   (.block 2
    (.loop [0,1,2,3,4,5,6,7,8,9,10,11]
     (.seq
     (.seq
     (.reg ⟨[],[],[(12,.v (.bin .lss (.s 11) (.s 8)))]⟩)
     (.cond (.s 12)
      .skip
      (.exit 2)))
     (.seq
     (.block 3
      (.seq
      (.reg ⟨[],[],[(13,.v (.eqv true (.bin .eql (.fld (.idx (.m 5 9) (.s 8) 1) 0) (.fld (.idx (.m 5 9) (.s 11) 1) 0)) (.bin .eql (.fld (.idx (.m 4 9) (.s 8) 1) 0) (.fld (.idx (.m 4 9) (.s 11) 1) 0))))]⟩)
      (.cond (.s 13)
       (.seq
       (.reg ⟨[],[],[(2,.v (.c (.bool false)))]⟩)
       .ret)
       .skip)))
     (.reg ⟨[],[],[(11,.v (.bin .add (.s 11) (.c (.int .i64 (1)))))]⟩))))))))
  (.reg ⟨[],[],[(8,.v (.bin .add (.s 8) (.c (.int .i64 (1)))))]⟩))))))
(.seq
(.reg ⟨[],[],[(2,.v (.s 3))]⟩)
.ret))))))),
[(2,.v)]⟩
theorem c4:Zf Try.prog fresh sig [.fz] [] Try.f4=some p4:=by kernel_rfl
def p5:Fn:=⟨26,[0,1,2,3,4,5,6,7,61,8,9,68,71,101,10,103,11,12,13,14,120,15,124,16,151,180],
(.seq
(.reg ⟨[],[],[(1,.m [(.fld (.sz (.s 0) 7) 0),(.fld (.sz (.s 0) 7) 1),(.fld (.sz (.s 0) 7) 2),(.fld (.sz (.s 0) 7) 3),(.fld (.sz (.s 0) 7) 4),(.fld (.sz (.s 0) 7) 5),(.fld (.sz (.s 0) 7) 6)]),(2,.v (.c (.bool false)))]⟩)
(.seq
(.reg ⟨[.call 26 [] (.id 11) false false []],[],[(3,.v (.s 26))]⟩)
(.seq
(.reg ⟨[.call 27 [] (.id 15) false false [(.mm 1 0 7)]],[],[(4,.m [(.fld (.sz (.s 27) 10) 0),(.fld (.sz (.s 27) 10) 1),(.fld (.sz (.s 27) 10) 2),(.fld (.sz (.s 27) 10) 3),(.fld (.sz (.s 27) 10) 4),(.fld (.sz (.s 27) 10) 5),(.fld (.sz (.s 27) 10) 6),(.fld (.sz (.s 27) 10) 7),(.fld (.sz (.s 27) 10) 8),(.fld (.sz (.s 27) 10) 9)])]⟩)
(.seq
(.reg ⟨[],[],[(5,.m [(.fld (.mm 4 0 10) 0),(.fld (.mm 4 0 10) 1),(.fld (.mm 4 0 10) 2),(.fld (.mm 4 0 10) 3),(.fld (.mm 4 0 10) 4),(.fld (.mm 4 0 10) 5),(.fld (.mm 4 0 10) 6),(.fld (.mm 4 0 10) 7),(.fld (.mm 4 0 10) 8),(.fld (.mm 4 0 10) 9)])]⟩)
(.seq
(.reg ⟨[],[],[(5,.m [(.m 5 0),(.m 5 1),(.m 5 2),(.m 5 3),(.m 5 4),(.m 5 5),(.m 5 6),(.m 5 7),(.m 5 8),(.mk (.int .u64 (0)) (.len (.m 4 9)))])]⟩)
(.seq
(.reg ⟨[.call 28 [] (.id 17) false false [(.mm 5 0 10)]],[],[(6,.m [(.fld (.sz (.ext (.s 28) 0) 10) 0),(.fld (.sz (.ext (.s 28) 0) 10) 1),(.fld (.sz (.ext (.s 28) 0) 10) 2),(.fld (.sz (.ext (.s 28) 0) 10) 3),(.fld (.sz (.ext (.s 28) 0) 10) 4),(.fld (.sz (.ext (.s 28) 0) 10) 5),(.fld (.sz (.ext (.s 28) 0) 10) 6),(.fld (.sz (.ext (.s 28) 0) 10) 7),(.fld (.sz (.ext (.s 28) 0) 10) 8),(.fld (.sz (.ext (.s 28) 0) 10) 9)]),(7,.v (.fl (.ext (.s 28) 1)))]⟩)
(.seq
(.seq
(.reg ⟨[.lt 29 [] (.bin .neq (.s 7) (.c (.int .i64 (0)))),.lt 30 [] (.ite (.s 29) (.c (.bool true)) (.m 6 3)),.lt 31 [] (.ite (.s 30) (.c (.bool true)) (.bin .neq (.bin .add (.bin .add (.bin .add (.len (.m 6 5)) (.len (.m 6 6))) (.len (.m 6 7))) (.len (.m 6 8))) (.c (.int .i64 (0))))),.call 32 [(31,false)] (.id 20) false false [(.mm 6 0 10)],.call 33 [(31,false)] (.id 19) false false [(.s 32),(.mm 6 0 10)]],[([(29,false)],(.m 6 3)),([(30,false)],(.bin .neq (.bin .add (.bin .add (.bin .add (.len (.m 6 5)) (.len (.m 6 6))) (.len (.m 6 7))) (.len (.m 6 8))) (.c (.int .i64 (0))))),([(31,false)],(.un .not (.s 33)))],[(8,.v (.ite (.s 31) (.c (.bool true)) (.un .not (.s 33))))]⟩)
(.cond (.s 8)
 (.seq
 (.reg ⟨[],[],[(2,.v (.c (.bool false)))]⟩)
 .ret)
 .skip))
(.seq
(.reg ⟨[.call 34 [] (.id 17) false false [(.mm 4 0 10)]],[],[(9,.m [(.fld (.sz (.ext (.s 34) 0) 10) 0),(.fld (.sz (.ext (.s 34) 0) 10) 1),(.fld (.sz (.ext (.s 34) 0) 10) 2),(.fld (.sz (.ext (.s 34) 0) 10) 3),(.fld (.sz (.ext (.s 34) 0) 10) 4),(.fld (.sz (.ext (.s 34) 0) 10) 5),(.fld (.sz (.ext (.s 34) 0) 10) 6),(.fld (.sz (.ext (.s 34) 0) 10) 7),(.fld (.sz (.ext (.s 34) 0) 10) 8),(.fld (.sz (.ext (.s 34) 0) 10) 9)]),(10,.v (.ext (.s 34) 1))]⟩)
(.seq
(.seq
(.reg ⟨[],[],[(11,.v (.bin .neq (.s 10) (.c (.int .i64 (0)))))]⟩)
(.cond (.s 11)
 (.seq
 (.reg ⟨[],[],[(2,.v (.c (.bool false)))]⟩)
 .ret)
 .skip))
(.seq
(.seq
(.reg ⟨[],[],[(12,.v (.un .not (.m 9 3)))]⟩)
(.cond (.s 12)
 (.seq
 (.reg ⟨[.lt 35 [] (.s 3),.call 36 [(35,true)] (.id 20) false false [(.mm 9 0 10)],.call 37 [(35,true)] (.id 19) false false [(.s 36),(.mm 9 0 10)]],[],[(2,.v (.ite (.s 35) (.s 37) (.c (.bool false))))]⟩)
 .ret)
 .skip))
(.seq
(.seq
(.reg ⟨[.lt 38 [] (.bin .neq (.len (.m 9 7)) (.len (.m 4 5))),.lt 39 [] (.ite (.s 38) (.c (.bool true)) (.bin .neq (.len (.m 9 8)) (.len (.m 4 6)))),.call 40 [(39,false)] (.id 20) false false [(.mm 9 0 10)],.call 41 [(39,false)] (.id 19) false false [(.s 40),(.ag [(.c (.int .u64 (0))),(.c (.int .i64 (0))),(.c (.int .i64 (0))),(.c (.bool false)),(.c (.int .i64 (0))),(.c (.sl [])),(.c (.sl [])),(.c (.sl [])),(.c (.sl [])),(.c (.sl []))])]],[([(38,false)],(.bin .neq (.len (.m 9 8)) (.len (.m 4 6)))),([(39,false)],(.un .not (.s 41)))],[(13,.v (.ite (.s 39) (.c (.bool true)) (.un .not (.s 41))))]⟩)
(.cond (.s 13)
 (.seq
 (.reg ⟨[],[],[(2,.v (.c (.bool false)))]⟩)
 .ret)
 .skip))
(.seq
(.seq
(.reg ⟨[],[],[(14,.v (.c (.int .i64 (3))))]⟩)
(.block 0
 (.loop [0,1,2,3,4,5,6,7,8,9,10,11,12,13,14]
  (.seq
  (.seq
  (.reg ⟨[],[],[(15,.v (.bin .leq (.s 14) (.c (.int .i64 (4)))))]⟩)
  (.cond (.s 15)
   .skip
   (.exit 0)))
  (.seq
  (.block 1
   (.seq
   (.reg ⟨[.call 42 [] (.id 22) false false [(.mm 9 0 10),(.s 14)]],[],[(16,.v (.ext (.s 42) 0)),(17,.v (.ext (.s 42) 1))]⟩)
   (.seq
   (.reg ⟨[.call 43 [] (.id 13) false false [(.mm 4 0 10),(.bin .sub (.s 14) (.c (.int .i64 (2))))]],[],[(18,.v (.s 43))]⟩)
   (.seq
   (.reg ⟨[.call 44 [] (.id 13) false false [(.mm 9 0 10),(.s 14)]],[],[(19,.v (.s 44))]⟩)
   (.seq
   (.seq
   (.reg ⟨[],[],[(20,.v (.bin .neq (.s 17) (.c (.int .i64 (0)))))]⟩)
   (.cond (.s 20)
    (.seq
    (.reg ⟨[],[],[(2,.v (.c (.bool false)))]⟩)
    .ret)
    .skip))
   (.seq
   (.reg ⟨[],[],[(21,.v (.c (.int .i64 (0))))]⟩)
   (.block 2
    (.loop [0,1,2,3,4,5,6,7,8,9,10,11,12,13,14,15,16,17,18,19,20,21]
     (.seq
     (.seq
     (.reg ⟨[],[],[(22,.v (.bin .lss (.s 21) (.len (.s 16))))]⟩)
     (.cond (.s 22)
      .skip
      (.exit 2)))
     (.seq
     (.block 3
      (.seq
      (.reg ⟨[],[],[(23,.m [(.fld (.flds (.idx (.s 16) (.s 21) 5) 0 5) 0),(.fld (.flds (.idx (.s 16) (.s 21) 5) 0 5) 1),(.fld (.flds (.idx (.s 16) (.s 21) 5) 0 5) 2),(.fld (.flds (.idx (.s 16) (.s 21) 5) 0 5) 3),(.fld (.flds (.idx (.s 16) (.s 21) 5) 0 5) 4)])]⟩)
      (.seq
      (.seq
      (.reg ⟨[.lt 45 [] (.bin .lss (.m 23 0) (.c (.int .i64 (0)))),.lt 46 [] (.ite (.s 45) (.c (.bool true)) (.bin .lss (.m 23 1) (.c (.int .i64 (0)))))],[([(45,false)],(.bin .lss (.m 23 1) (.c (.int .i64 (0))))),([(46,false)],(.bin .gtr (.bin .add (.bin .add (.m 23 0) (.c (.int .i64 (1)))) (.m 23 1)) (.len (.s 18))))],[(24,.v (.ite (.s 46) (.c (.bool true)) (.bin .gtr (.bin .add (.bin .add (.m 23 0) (.c (.int .i64 (1)))) (.m 23 1)) (.len (.s 18)))))]⟩)
      (.cond (.s 24)
       (.seq
       (.reg ⟨[],[],[(2,.v (.c (.bool false)))]⟩)
       .ret)
       .skip))
      (.seq
      (.reg ⟨[.lt 47 [] (.un .not (.m 23 3)),.call 48 [(47,true)] (.id 23) false false [(.slc (.s 18) (.m 23 0) (.bin .add (.bin .add (.m 23 0) (.c (.int .i64 (1)))) (.m 23 1)) 1),(.slc (.s 19) (.m 23 0) (.bin .add (.bin .add (.m 23 0) (.c (.int .i64 (1)))) (.m 23 1)) 1)]],[([(47,true)],(.un .not (.s 48)))],[(25,.v (.ite (.s 47) (.un .not (.s 48)) (.c (.bool false))))]⟩)
      (.cond (.s 25)
       (.seq
       (.reg ⟨[],[],[(2,.v (.c (.bool false)))]⟩)
       .ret)
       .skip)))))
     (.reg ⟨[],[],[(21,.v (.bin .add (.s 21) (.c (.int .i64 (1)))))]⟩)))))))))))
  (.reg ⟨[],[],[(14,.v (.bin .add (.s 14) (.c (.int .i64 (1)))))]⟩))))))
(.seq
(.reg ⟨[],[],[(2,.v (.s 3))]⟩)
.ret))))))))))))),
[(2,.v)]⟩
theorem c5:Zf Try.prog fresh sig [.fz] [] Try.f5=some p5:=by kernel_rfl
def p6:Fn:=⟨10,[0,1,2,3,4,5,6,17,7,27],
(.seq
(.reg ⟨[],[],[(1,.m [(.fld (.sz (.s 0) 7) 0),(.fld (.sz (.s 0) 7) 1),(.fld (.sz (.s 0) 7) 2),(.fld (.sz (.s 0) 7) 3),(.fld (.sz (.s 0) 7) 4),(.fld (.sz (.s 0) 7) 5),(.fld (.sz (.s 0) 7) 6)]),(2,.v (.c (.bool false)))]⟩)
(.seq
(.reg ⟨[.call 10 [] (.id 11) false false []],[],[(3,.v (.s 10))]⟩)
(.seq
(.reg ⟨[.call 11 [] (.id 15) false false [(.mm 1 0 7)]],[],[(4,.m [(.fld (.sz (.s 11) 10) 0),(.fld (.sz (.s 11) 10) 1),(.fld (.sz (.s 11) 10) 2),(.fld (.sz (.s 11) 10) 3),(.fld (.sz (.s 11) 10) 4),(.fld (.sz (.s 11) 10) 5),(.fld (.sz (.s 11) 10) 6),(.fld (.sz (.s 11) 10) 7),(.fld (.sz (.s 11) 10) 8),(.fld (.sz (.s 11) 10) 9)])]⟩)
(.seq
(.reg ⟨[.call 12 [] (.id 17) false false [(.mm 4 0 10)]],[],[(5,.m [(.fld (.sz (.ext (.s 12) 0) 10) 0),(.fld (.sz (.ext (.s 12) 0) 10) 1),(.fld (.sz (.ext (.s 12) 0) 10) 2),(.fld (.sz (.ext (.s 12) 0) 10) 3),(.fld (.sz (.ext (.s 12) 0) 10) 4),(.fld (.sz (.ext (.s 12) 0) 10) 5),(.fld (.sz (.ext (.s 12) 0) 10) 6),(.fld (.sz (.ext (.s 12) 0) 10) 7),(.fld (.sz (.ext (.s 12) 0) 10) 8),(.fld (.sz (.ext (.s 12) 0) 10) 9)]),(6,.v (.ext (.s 12) 1))]⟩)
(.seq
(.seq
(.reg ⟨[],[],[(7,.v (.bin .neq (.s 6) (.c (.int .i64 (0)))))]⟩)
(.cond (.s 7)
 (.seq
 (.reg ⟨[],[],[(2,.v (.c (.bool false)))]⟩)
 .ret)
 .skip))
(.seq
(.reg ⟨[],[],[(8,.v (.bin .add (.len (.m 4 5)) (.len (.m 4 6))))]⟩)
(.seq
(.seq
(.reg ⟨[],[],[(9,.v (.un .not (.m 5 3)))]⟩)
(.cond (.s 9)
 (.seq
 (.reg ⟨[.lt 13 [] (.s 3),.lt 14 [] (.ite (.s 13) (.bin .eql (.bin .add (.len (.m 5 5)) (.len (.m 5 6))) (.c (.int .i64 (0)))) (.c (.bool false))),.call 15 [(14,true)] (.id 25) false false [(.mm 5 0 10)],.call 16 [(14,true)] (.id 24) false false [(.s 15)],.lt 17 [] (.ite (.s 14) (.bin .eql (.s 16) (.m 4 1)) (.c (.bool false)))],[([(13,true)],(.bin .eql (.bin .add (.len (.m 5 5)) (.len (.m 5 6))) (.c (.int .i64 (0))))),([(14,true)],(.bin .eql (.s 16) (.m 4 1))),([(17,true)],(.bin .eql (.m 5 2) (.bin .sub (.c (.int .i64 (1))) (.m 4 2))))],[(2,.v (.ite (.s 17) (.bin .eql (.m 5 2) (.bin .sub (.c (.int .i64 (1))) (.m 4 2))) (.c (.bool false))))]⟩)
 .ret)
 .skip))
(.seq
(.reg ⟨[.lt 18 [] (.s 3),.call 19 [(18,true)] (.id 26) false false [(.mm 5 0 10)],.lt 20 [] (.ite (.s 18) (.bin .eql (.bin .add (.len (.m 5 5)) (.s 19)) (.s 8)) (.c (.bool false))),.call 21 [(20,true)] (.id 25) false false [(.mm 5 0 10)],.call 22 [(20,true)] (.id 24) false false [(.s 21)],.lt 23 [] (.ite (.s 20) (.bin .eql (.s 22) (.bin .sub (.m 4 1) (.len (.m 5 5)))) (.c (.bool false))),.lt 24 [] (.ite (.s 23) (.bin .eql (.m 5 2) (.bin .sub (.c (.int .i64 (1))) (.m 4 2))) (.c (.bool false))),.lt 25 [] (.ite (.s 24) (.bin .eql (.m 5 1) (.m 4 1)) (.c (.bool false)))],[([(18,true)],(.bin .eql (.bin .add (.len (.m 5 5)) (.s 19)) (.s 8))),([(20,true)],(.bin .eql (.s 22) (.bin .sub (.m 4 1) (.len (.m 5 5))))),([(23,true)],(.bin .eql (.m 5 2) (.bin .sub (.c (.int .i64 (1))) (.m 4 2)))),([(24,true)],(.bin .eql (.m 5 1) (.m 4 1))),([(25,true)],(.bin .eql (.m 5 0) (.m 4 0)))],[(2,.v (.ite (.s 25) (.bin .eql (.m 5 0) (.m 4 0)) (.c (.bool false))))]⟩)
.ret)))))))),
[(2,.v)]⟩
theorem c6:Zf Try.prog fresh sig [.fz] [] Try.f6=some p6:=by kernel_rfl
def p11:Fn:=⟨11,[0,1,2,3,4,5,6,7,8,9,10],
(.seq
(.reg ⟨[],[],[(0,.v (.c (.bool false)))]⟩)
(.seq
(.reg ⟨[],[([],(.ag [(.c (.int .u64 (10))),(.c (.int .i64 (5))),(.c (.int .i64 (0))),(.c (.bool false)),(.c (.int .i64 (2))),(.lit [(.c (.int .u64 (2))),(.c (.int .u64 (6)))]),(.c (.sl [])),(.c (.sl [])),(.c (.sl [])),(.lit [(.c (.int .u64 (21)))])]))],[(1,.m [(.c (.int .u64 (10))),(.c (.int .i64 (5))),(.c (.int .i64 (0))),(.c (.bool false)),(.c (.int .i64 (2))),(.lit [(.c (.int .u64 (2))),(.c (.int .u64 (6)))]),(.c (.sl [])),(.c (.sl [])),(.c (.sl [])),(.lit [(.c (.int .u64 (21)))])])]⟩)
(.seq
(.reg ⟨[.call 11 [] (.id 17) false false [(.mm 1 0 10)]],[],[(2,.m [(.fld (.sz (.ext (.s 11) 0) 10) 0),(.fld (.sz (.ext (.s 11) 0) 10) 1),(.fld (.sz (.ext (.s 11) 0) 10) 2),(.fld (.sz (.ext (.s 11) 0) 10) 3),(.fld (.sz (.ext (.s 11) 0) 10) 4),(.fld (.sz (.ext (.s 11) 0) 10) 5),(.fld (.sz (.ext (.s 11) 0) 10) 6),(.fld (.sz (.ext (.s 11) 0) 10) 7),(.fld (.sz (.ext (.s 11) 0) 10) 8),(.fld (.sz (.ext (.s 11) 0) 10) 9)]),(3,.v (.fl (.ext (.s 11) 1)))]⟩)
(.seq
(.reg ⟨[.call 12 [] (.id 17) false false [(.mm 2 0 10)]],[],[(4,.m [(.fld (.sz (.ext (.s 12) 0) 10) 0),(.fld (.sz (.ext (.s 12) 0) 10) 1),(.fld (.sz (.ext (.s 12) 0) 10) 2),(.fld (.sz (.ext (.s 12) 0) 10) 3),(.fld (.sz (.ext (.s 12) 0) 10) 4),(.fld (.sz (.ext (.s 12) 0) 10) 5),(.fld (.sz (.ext (.s 12) 0) 10) 6),(.fld (.sz (.ext (.s 12) 0) 10) 7),(.fld (.sz (.ext (.s 12) 0) 10) 8),(.fld (.sz (.ext (.s 12) 0) 10) 9)]),(5,.v (.ext (.s 12) 1))]⟩)
(.seq
(.reg ⟨[.call 13 [] (.id 17) false false [(.ag [(.c (.int .u64 (0))),(.c (.int .i64 (0))),(.c (.int .i64 (0))),(.c (.bool false)),(.c (.int .i64 (0))),(.c (.sl [])),(.c (.sl [])),(.c (.sl [])),(.c (.sl [])),(.c (.sl []))])]],[],[(6,.m [(.fld (.sz (.ext (.s 13) 0) 10) 0),(.fld (.sz (.ext (.s 13) 0) 10) 1),(.fld (.sz (.ext (.s 13) 0) 10) 2),(.fld (.sz (.ext (.s 13) 0) 10) 3),(.fld (.sz (.ext (.s 13) 0) 10) 4),(.fld (.sz (.ext (.s 13) 0) 10) 5),(.fld (.sz (.ext (.s 13) 0) 10) 6),(.fld (.sz (.ext (.s 13) 0) 10) 7),(.fld (.sz (.ext (.s 13) 0) 10) 8),(.fld (.sz (.ext (.s 13) 0) 10) 9)]),(7,.v (.ext (.s 13) 1))]⟩)
(.seq
(.reg ⟨[],[],[(8,.m [(.fld (.mm 1 0 10) 0),(.fld (.mm 1 0 10) 1),(.fld (.mm 1 0 10) 2),(.fld (.mm 1 0 10) 3),(.fld (.mm 1 0 10) 4),(.fld (.mm 1 0 10) 5),(.fld (.mm 1 0 10) 6),(.fld (.mm 1 0 10) 7),(.fld (.mm 1 0 10) 8),(.fld (.mm 1 0 10) 9)])]⟩)
(.seq
(.reg ⟨[],[],[(8,.m [(.m 8 0),(.m 8 1),(.m 8 2),(.m 8 3),(.m 8 4),(.m 8 5),(.m 8 6),(.m 8 7),(.m 8 8),(.lit [(.c (.int .u64 (0)))])])]⟩)
(.seq
(.reg ⟨[.call 14 [] (.id 17) false false [(.mm 8 0 10)]],[],[(9,.m [(.fld (.sz (.ext (.s 14) 0) 10) 0),(.fld (.sz (.ext (.s 14) 0) 10) 1),(.fld (.sz (.ext (.s 14) 0) 10) 2),(.fld (.sz (.ext (.s 14) 0) 10) 3),(.fld (.sz (.ext (.s 14) 0) 10) 4),(.fld (.sz (.ext (.s 14) 0) 10) 5),(.fld (.sz (.ext (.s 14) 0) 10) 6),(.fld (.sz (.ext (.s 14) 0) 10) 7),(.fld (.sz (.ext (.s 14) 0) 10) 8),(.fld (.sz (.ext (.s 14) 0) 10) 9)]),(10,.v (.fl (.ext (.s 14) 1)))]⟩)
(.seq
(.reg ⟨[.lt 15 [] (.bin .eql (.s 3) (.c (.int .i64 (0)))),.call 16 [(15,true)] (.id 19) false false [(.mm 2 0 10),(.ag [(.c (.int .u64 (10))),(.c (.int .i64 (5))),(.c (.int .i64 (1))),(.c (.bool true)),(.c (.int .i64 (0))),(.lit [(.c (.int .u64 (2))),(.c (.int .u64 (6)))]),(.c (.sl [])),(.lit [(.c (.int .u64 (31))),(.c (.int .u64 (0)))]),(.c (.sl [])),(.lit [(.c (.int .u64 (31)))])])],.lt 17 [] (.ite (.s 15) (.s 16) (.c (.bool false))),.lt 18 [] (.ite (.s 17) (.bin .eql (.s 5) (.c (.int .i64 (10)))) (.c (.bool false))),.lt 19 [] (.ite (.s 18) (.bin .eql (.s 7) (.c (.int .i64 (1)))) (.c (.bool false))),.lt 20 [] (.ite (.s 19) (.bin .eql (.s 10) (.c (.int .i64 (0)))) (.c (.bool false))),.call 21 [(20,true)] (.id 19) false false [(.mm 9 0 10),(.ag [(.c (.int .u64 (10))),(.c (.int .i64 (5))),(.c (.int .i64 (1))),(.c (.bool false)),(.c (.int .i64 (0))),(.c (.sl [])),(.c (.sl [])),(.c (.sl [])),(.c (.sl [])),(.lit [(.c (.int .u64 (0)))])])],.lt 22 [] (.ite (.s 20) (.s 21) (.c (.bool false))),.call 23 [(22,true)] (.id 20) false false [(.mm 1 0 10)],.call 24 [(22,true)] (.id 19) false false [(.s 23),(.mm 1 0 10)],.lt 25 [] (.ite (.s 22) (.s 24) (.c (.bool false))),.call 26 [(25,true)] (.id 20) false false [(.mm 2 0 10)],.call 27 [(25,true)] (.id 19) false false [(.s 26),(.ag [(.c (.int .u64 (0))),(.c (.int .i64 (0))),(.c (.int .i64 (0))),(.c (.bool false)),(.c (.int .i64 (0))),(.c (.sl [])),(.c (.sl [])),(.c (.sl [])),(.c (.sl [])),(.c (.sl []))])]],[([(17,true)],(.bin .eql (.s 5) (.c (.int .i64 (10))))),([(18,true)],(.bin .eql (.s 7) (.c (.int .i64 (1))))),([(19,true)],(.bin .eql (.s 10) (.c (.int .i64 (0)))))],[(0,.v (.ite (.s 25) (.s 27) (.c (.bool false))))]⟩)
.ret))))))))),
[(0,.v)]⟩
theorem c11:Zf Try.prog fresh sig [] [] Try.f11=some p11:=by kernel_rfl
def p18:Fn:=⟨14,[0,1,2,3,4,13,16,5,6,37,8,7,9,68],
(.seq
(.reg ⟨[],[],[(1,.m [(.fld (.sz (.s 0) 10) 0),(.fld (.sz (.s 0) 10) 1),(.fld (.sz (.s 0) 10) 2),(.fld (.sz (.s 0) 10) 3),(.fld (.sz (.s 0) 10) 4),(.fld (.sz (.s 0) 10) 5),(.fld (.sz (.s 0) 10) 6),(.fld (.sz (.s 0) 10) 7),(.fld (.sz (.s 0) 10) 8),(.fld (.sz (.s 0) 10) 9)]),(2,.m [(.c (.int .u64 (0))),(.c (.int .i64 (0))),(.c (.int .i64 (0))),(.c (.bool false)),(.c (.int .i64 (0))),(.c (.sl [])),(.c (.sl [])),(.c (.sl [])),(.c (.sl [])),(.c (.sl []))]),(3,.v (.c (.int .i64 (0))))]⟩)
(.seq
(.reg ⟨[.call 14 [] (.id 40) false false [(.mm 1 0 10)]],[],[(4,.v (.s 14))]⟩)
(.seq
(.seq
(.reg ⟨[],[],[(5,.v (.un .not (.s 4)))]⟩)
(.cond (.s 5)
 (.seq
 (.reg ⟨[],[([],(.ag [(.c (.int .u64 (0))),(.c (.int .i64 (0))),(.c (.int .i64 (0))),(.c (.bool false)),(.c (.int .i64 (0))),(.c (.sl [])),(.c (.sl [])),(.c (.sl [])),(.c (.sl [])),(.c (.sl []))]))],[(2,.m [(.c (.int .u64 (0))),(.c (.int .i64 (0))),(.c (.int .i64 (0))),(.c (.bool false)),(.c (.int .i64 (0))),(.c (.sl [])),(.c (.sl [])),(.c (.sl [])),(.c (.sl [])),(.c (.sl []))]),(3,.v (.c (.int .i64 (1))))]⟩)
 .ret)
 .skip))
(.seq
(.seq
(.reg ⟨[],[],[(6,.v (.m 1 3))]⟩)
(.cond (.s 6)
 (.seq
 (.reg ⟨[],[([],(.ag [(.c (.int .u64 (0))),(.c (.int .i64 (0))),(.c (.int .i64 (0))),(.c (.bool false)),(.c (.int .i64 (0))),(.c (.sl [])),(.c (.sl [])),(.c (.sl [])),(.c (.sl [])),(.c (.sl []))]))],[(2,.m [(.c (.int .u64 (0))),(.c (.int .i64 (0))),(.c (.int .i64 (0))),(.c (.bool false)),(.c (.int .i64 (0))),(.c (.sl [])),(.c (.sl [])),(.c (.sl [])),(.c (.sl [])),(.c (.sl []))]),(3,.v (.c (.int .i64 (10))))]⟩)
 .ret)
 .skip))
(.seq
(.reg ⟨[],[([],(.ag [(.m 1 0),(.m 1 1),(.bin .sub (.c (.int .i64 (1))) (.m 1 2)),(.c (.bool false)),(.c (.int .i64 (0))),(.c (.sl [])),(.c (.sl [])),(.m 1 5),(.m 1 6),(.app (.c (.sl [])) (.m 1 9) 1)]))],[(7,.m [(.m 1 0),(.m 1 1),(.bin .sub (.c (.int .i64 (1))) (.m 1 2)),(.c (.bool false)),(.c (.int .i64 (0))),(.c (.sl [])),(.c (.sl [])),(.m 1 5),(.m 1 6),(.app (.c (.sl [])) (.m 1 9) 1)])]⟩)
(.seq
(.seq
(.reg ⟨[],[],[(8,.v (.c (.int .i64 (0))))]⟩)
(.block 0
 (.loop [0,1,2,3,4,5,6,7,8]
  (.seq
  (.seq
  (.reg ⟨[],[],[(9,.v (.bin .lss (.s 8) (.len (.m 1 9))))]⟩)
  (.cond (.s 9)
   .skip
   (.exit 0)))
  (.seq
  (.block 1
   (.seq
   (.reg ⟨[.call 15 [] (.id 41) false false [(.mm 7 0 10),(.fld (.idx (.m 1 9) (.s 8) 1) 0)]],[],[(10,.m [(.fld (.sz (.ext (.s 15) 1) 10) 0),(.fld (.sz (.ext (.s 15) 1) 10) 1),(.fld (.sz (.ext (.s 15) 1) 10) 2),(.fld (.sz (.ext (.s 15) 1) 10) 3),(.fld (.sz (.ext (.s 15) 1) 10) 4),(.fld (.sz (.ext (.s 15) 1) 10) 5),(.fld (.sz (.ext (.s 15) 1) 10) 6),(.fld (.sz (.ext (.s 15) 1) 10) 7),(.fld (.sz (.ext (.s 15) 1) 10) 8),(.fld (.sz (.ext (.s 15) 1) 10) 9)]),(11,.v (.ext (.s 15) 0)),(12,.v (.ext (.s 15) 2))]⟩)
   (.seq
   (.reg ⟨[],[],[(10,.m [(.m 10 0),(.m 10 1),(.m 10 2),(.m 10 3),(.m 10 4),(.m 10 5),(.m 10 6),(.m 10 7),(.m 10 8),(.app (.c (.sl [])) (.m 10 9) 1)])]⟩)
   (.seq
   (.reg ⟨[],[([],(.idx (.m 10 9) (.s 8) 1))],[(10,.m [(.m 10 0),(.m 10 1),(.m 10 2),(.m 10 3),(.m 10 4),(.m 10 5),(.m 10 6),(.m 10 7),(.m 10 8),(.upd (.m 10 9) (.s 8) 0 (.one (.s 11)))])]⟩)
   (.reg ⟨[],[],[(7,.m [(.fld (.mm 10 0 10) 0),(.fld (.mm 10 0 10) 1),(.fld (.mm 10 0 10) 2),(.fld (.mm 10 0 10) 3),(.fld (.mm 10 0 10) 4),(.fld (.mm 10 0 10) 5),(.fld (.mm 10 0 10) 6),(.fld (.mm 10 0 10) 7),(.fld (.mm 10 0 10) 8),(.fld (.mm 10 0 10) 9)])]⟩)))))
  (.reg ⟨[],[],[(8,.v (.bin .add (.s 8) (.c (.int .i64 (1)))))]⟩))))))
(.seq
(.reg ⟨[],[],[(7,.m [(.m 7 0),(.m 7 1),(.m 7 2),(.bin .gtr (.len (.m 7 5)) (.c (.int .i64 (0)))),(.m 7 4),(.m 7 5),(.m 7 6),(.m 7 7),(.m 7 8),(.m 7 9)])]⟩)
(.seq
(.seq
(.reg ⟨[],[],[(13,.v (.un .not (.m 7 3)))]⟩)
(.cond (.s 13)
 (.seq
 (.reg ⟨[],[],[(7,.m [(.m 7 0),(.m 7 1),(.m 7 2),(.m 7 3),(.m 7 4),(.m 7 5),(.m 7 6),(.c (.sl [])),(.m 7 8),(.m 7 9)])]⟩)
 (.reg ⟨[],[],[(7,.m [(.m 7 0),(.m 7 1),(.m 7 2),(.m 7 3),(.m 7 4),(.m 7 5),(.m 7 6),(.m 7 7),(.c (.sl [])),(.m 7 9)])]⟩))
 .skip))
(.seq
(.reg ⟨[],[],[(2,.m [(.fld (.mm 7 0 10) 0),(.fld (.mm 7 0 10) 1),(.fld (.mm 7 0 10) 2),(.fld (.mm 7 0 10) 3),(.fld (.mm 7 0 10) 4),(.fld (.mm 7 0 10) 5),(.fld (.mm 7 0 10) 6),(.fld (.mm 7 0 10) 7),(.fld (.mm 7 0 10) 8),(.fld (.mm 7 0 10) 9)]),(3,.v (.c (.int .i64 (0))))]⟩)
.ret))))))))),
[(2,(.ag 10)),(3,.v)]⟩
theorem c18:Zf Try.prog fresh sig [.fz] [] Try.f18=some p18:=by kernel_rfl
def p20:Fn:=⟨4,[0,1,2,9],
(.seq
(.reg ⟨[],[],[(1,.m [(.fld (.sz (.s 0) 10) 0),(.fld (.sz (.s 0) 10) 1),(.fld (.sz (.s 0) 10) 2),(.fld (.sz (.s 0) 10) 3),(.fld (.sz (.s 0) 10) 4),(.fld (.sz (.s 0) 10) 5),(.fld (.sz (.s 0) 10) 6),(.fld (.sz (.s 0) 10) 7),(.fld (.sz (.s 0) 10) 8),(.fld (.sz (.s 0) 10) 9)]),(2,.m [(.c (.int .u64 (0))),(.c (.int .i64 (0))),(.c (.int .i64 (0))),(.c (.bool false)),(.c (.int .i64 (0))),(.c (.sl [])),(.c (.sl [])),(.c (.sl [])),(.c (.sl [])),(.c (.sl []))])]⟩)
(.seq
(.seq
(.reg ⟨[.lt 4 [] (.m 1 3),.call 5 [(4,false)] (.id 33) false false [(.mm 1 0 10)]],[([(4,false)],(.un .not (.s 5)))],[(3,.v (.ite (.s 4) (.c (.bool true)) (.un .not (.s 5))))]⟩)
(.cond (.s 3)
 (.seq
 (.reg ⟨[],[([],(.ag [(.c (.int .u64 (0))),(.c (.int .i64 (0))),(.c (.int .i64 (0))),(.c (.bool false)),(.c (.int .i64 (0))),(.c (.sl [])),(.c (.sl [])),(.c (.sl [])),(.c (.sl [])),(.c (.sl []))]))],[(2,.m [(.c (.int .u64 (0))),(.c (.int .i64 (0))),(.c (.int .i64 (0))),(.c (.bool false)),(.c (.int .i64 (0))),(.c (.sl [])),(.c (.sl [])),(.c (.sl [])),(.c (.sl [])),(.c (.sl []))])]⟩)
 .ret)
 .skip))
(.seq
(.reg ⟨[.call 6 [] (.id 38) false false [(.m 1 5)],.call 7 [] (.id 38) false false [(.m 1 6)],.call 8 [] (.id 38) false false [(.m 1 9)]],[([],(.ag [(.m 1 0),(.m 1 1),(.m 1 2),(.c (.bool false)),(.m 1 4),(.one (.s 6)),(.one (.s 7)),(.c (.sl [])),(.c (.sl [])),(.one (.s 8))]))],[(2,.m [(.m 1 0),(.m 1 1),(.m 1 2),(.c (.bool false)),(.m 1 4),(.one (.s 6)),(.one (.s 7)),(.c (.sl [])),(.c (.sl [])),(.one (.s 8))])]⟩)
.ret))),
[(2,(.ag 10))]⟩
theorem c20:Zf Try.prog fresh sig [.fz] [] Try.f20=some p20:=by kernel_rfl
end Vm
end
section
namespace Vm
open Go Go.Proofs Go.RowKit
set_option maxHeartbeats 1000000
set_option maxRecDepth 100000
theorem yG(w:World)(G:Nat→Prop)(hG: ∀b,G b→b<w.heap.size)(h:Hp)(hh:h.ok)(src:Nat→Value)(hs: ∀j,j<5→Rd w G (.sl ((lsH h j).map vu)) (src j)):
  Calls Try.prog 17 #[hpA h src] w (UV w (Wn h)):=by
 cases hr:Yb h with
 |false=>
  rw[show Wn h=(Hp.zero,1)by unfold Wn;rw[if_pos hr]]
  exact Z15 w G hG h hh src hs hr
 |true=>
  cases hc:h.cycle with
  |true=>
   rw[show Wn h=(Hp.zero,10)by unfold Wn;rw[if_neg (by rw[hr];simp),if_pos hc]]
   exact Z0N w G hG h hh src hs hr hc
  |false=>
   obtain⟨p,r⟩:=Tt.1 hr
   rw[show Wn h=(V8 h,0)by unfold Wn;rw[if_neg (by rw[hr];simp),if_neg (by rw[hc];simp)]]
   exact Z0Y w G hG h hh src hs r hc
theorem U7{h:Hp}(hh:h.ok):VC Try.prog 17 false [hpV h] (.tup [hpV (Wn h).1,vi (Wn h).2]):=by
 refine⟨by kernel_rfl,fun w G vs hG hsz hvs=> ?_⟩
 have r0:=hvs 0 _ rfl
 have he:vs= #[vs.getD 0 undef]:=by
  have hs3:vs.size=1:=hsz
  apply Array.ext
  ·simp[hs3]
  ·intro i h1 h2
   have hi:i<1:=by omega
   match i,hi with
   |0,_=>simp[Array.getD,hs3]
 obtain⟨src,e0,hs⟩:=Z28 r0
 rw[he,e0]
 refine(yG w G hG h hh src hs).mono ?_
 rintro e w' ⟨x,rfl,hb',hr⟩
 refine⟨_,rfl,hb',?_⟩
 refine .tup _ _ rfl ?_
 intro i y hy
 match i,hy with
 |0,hy=>cases hy;exact Z29 fun j hj=>(hr j hj).mono fun b hb=> .inr hb
 |1,hy=>cases hy;exact .int _ _
theorem Ui{l:List Int}(hl:l.length≤1000000):VC Try.prog 38 false [.sl (l.map vu)] (.sl (l.map vu)):=by
 refine⟨by kernel_rfl,fun w G vs hG hsz hvs=> ?_⟩
 have r0:=hvs 0 _ rfl
 have he:vs= #[vs.getD 0 undef]:=by
  have hs3:vs.size=1:=hsz
  apply Array.ext
  ·simp[hs3]
  ·intro i h1 h2
   have hi:i<1:=by omega
   match i,hi with
   |0,_=>simp[Array.getD,hs3]
 rw[he]
 refine(Wb w hl r0).mono ?_
 rintro e w' ⟨v,rfl,hb,hr⟩
 exact⟨v,rfl,hb,hr.mono fun b hb=> .inr hb⟩
theorem RO{h:Hp}(hh:h.ok):VC Try.prog 20 false [hpV h] (hpV (So h)):=by
 refine Za Try.func20 follows (by kernel_rfl) c20 rfl ?_
 have k1:=Z1A hh
 have f1:=Ui hh.low
 have f2:=Ui hh.high
 have f3:=Ui hh.roots
 simp only[hpV]at k1
 unfold So
 simp[p20]
 cases hc:h.cycle
 ·simp[hc]at k1
  simp[hc]
  refine Z0 k1 (by simp) ?_
  cases hr:Yb h
  ·simp[hpV,Hp.zero]
  simp
  refine Z0 f1 (by simp) ?_
  simp
  refine Z0 f2 (by simp) ?_
  simp
  refine Z0 f3 (by simp) ?_
  obtain⟨p,r⟩:=Tt.1 hr
  obtain⟨_,e2,e3⟩:=r.rest hc
  simp[hpV,e2,e3,hc]
 ·simp[hc,hpV,Hp.zero]
end Vm
end
section
namespace Vm
open Go Go.Proofs Go.RowKit
set_option maxHeartbeats 1000000
set_option maxRecDepth 100000
def ex14:Hp:=⟨10,5,0,false,2,[2,6],[],[],[],[21]⟩
def ey14:Hp:=⟨10,5,1,true,0,[2,6],[],[31,0],[],[31]⟩
def ez14:Hp:=⟨10,5,0,false,2,[2,6],[],[],[],[0]⟩
def eu14:Hp:=⟨10,5,1,false,0,[],[],[],[],[0]⟩
theorem Kb:ex14.ok:=by refine⟨?_,?_,?_,?_,?_,?_,?_,?_,?_,?_,?_,?_,?_,?_⟩<;>simp[ex14,U64,Fit]
theorem JL:ey14.ok:=by refine⟨?_,?_,?_,?_,?_,?_,?_,?_,?_,?_,?_,?_,?_,?_⟩<;>simp[ey14,U64,Fit]
theorem Z0M:ez14.ok:=by refine⟨?_,?_,?_,?_,?_,?_,?_,?_,?_,?_,?_,?_,?_,?_⟩<;>simp[ez14,U64,Fit]
theorem Z0x:eu14.ok:=by refine⟨?_,?_,?_,?_,?_,?_,?_,?_,?_,?_,?_,?_,?_,?_⟩<;>simp[eu14,U64,Fit]
theorem VS:Hp.zero.ok:=by refine⟨?_,?_,?_,?_,?_,?_,?_,?_,?_,?_,?_,?_,?_,?_⟩<;>simp[Hp.zero,U64,Fit]
theorem LB:VC Try.prog 11 false [] (.bool true):=by
 refine Za Try.func11 follows (by kernel_rfl) c11 rfl ?_
 have r1:Wn ex14=(ey14,0):=by decide+kernel
 have r2:Wn ey14=(Hp.zero,10):=by decide+kernel
 have r3:Wn Hp.zero=(Hp.zero,1):=by decide+kernel
 have r4:Wn ez14=(eu14,0):=by decide+kernel
 have r5:So ex14=ex14:=by decide+kernel
 have r6:So ey14=Hp.zero:=by decide+kernel
 have m1:=U7 Kb
 have m2:=U7 JL
 have m3:=U7 VS
 have m4:=U7 Z0M
 have m5:=RO Kb
 have m6:=RO JL
 have s1:=XA (b:=ey14) JL
 have s2:=XA (b:=eu14) Z0x
 have s3:=XA (b:=ex14) Kb
 have s4:=XA (b:=Hp.zero) VS
 rw[r1]at m1
 rw[r2]at m2
 rw[r3]at m3
 rw[r4]at m4
 rw[r5]at m5
 rw[r6]at m6
 simp only[hpV,ex14,ey14,ez14,eu14,Hp.zero,List.map_cons,List.map_nil]at m1 m2 m3 m4 m5 m6 s1 s2 s3 s4
 simp[p11]
 refine Z0 m1 (by simp) ?_
 simp
 refine Z0 m2 (by simp) ?_
 simp
 refine Z0 m3 (by simp) ?_
 simp
 refine Z0 m4 (by simp) ?_
 simp
 refine Z0 s1 (by simp) ?_
 simp
 refine Z0 s2 (by simp) ?_
 simp
 refine Z0 m5 (by simp) ?_
 simp
 refine Z0 s3 (by simp) ?_
 simp
 refine Z0 m6 (by simp) ?_
 simp
 refine Z0 s4 (by simp) ?_
 simp
end Vm
end
section
namespace Vm
open Go Go.Proofs
set_option maxRecDepth 100000
set_option maxHeartbeats 1000000
structure Made (b:Bt) (x:Rw):Prop where
 pl:Placed b x
 lay:Z9 (layH b.h)=true
 nine: ∀n∈b.g.nodes,sizN n≤9
 cyc:b.h.cycle=true→ ∀i,i<b.g.nodes.length→(Z8 b i).part=1→(ZB b i).part≠0
 scan:0≤b.h.scan∧b.h.scan≤b.h.low.length∧(if b.h.cycle then b.h.scan<b.h.low.length else b.h.scan=b.h.low.length∧b.h.old= []∧b.h.far= [])
 room:(b.h.low.length:Int)+b.h.high.length+((wtL (obs b 3)+wtL (obs b 4):Nat):Int)≤b.h.cap
 fit:Fit b.h.scan
def ptsB(b:Bt):Pts:=⟨obs b 1,obs b 2,obs b 3,obs b 4⟩
theorem S9(b:Bt){k:Int}(hk:1≤k∧k≤4):(ptsB b).at k=obs b k:=by
 have h1:k=1∨k=2∨k=3∨k=4:=by omega
 rcases h1 with rfl|rfl|rfl|rfl<;>rfl
section
variable {b:Bt} {x:Rw}
theorem Made.fill(m:Made b x):(Y9 x b).ok∧layH (Y9 x b)=layH b.h∧(Y9 x b).scan=b.h.scan∧(Y9 x b).cycle=b.h.cycle:=Rh m.pl.ok m.fit
theorem Made.tiles(m:Made b x){k:Int}(hk:1≤k∧k≤4):Tiles (Z6 (Y9 x b) k) (decide (2<k)) 0 (obs b k):=jH m.pl m.lay m.nine hk
theorem Made.start(m:Made b x){k a:Int}(hk:1≤k∧k≤4)(ha:0≤a∧a<sizL (layH b.h) k):ZF (Y9 x b) k a=fstL (layH b.h) k+a:=by
 unfold ZF
 rw[m.fill.2.1,Uu m.lay hk ha]
theorem UW(n:Nd):1≤sizN n:=by unfold sizN;omega
theorem Made.ob_here(m:Made b x){i:Nat}(hi:i<b.g.nodes.length)(hp:(Z8 b i).part≠0): ∃o∈obs b (Z8 b i).part,o.at_=(Z8 b i).at_∧o.size=((ndAt b i).ptrs.length:Int)+(ndAt b i).data.length∧o.ptrs=(ndAt b i).ptrs.length∧o.gone=false:=
 ⟨_,Ue.2 ⟨i,hi,by unfold obAt;rw[if_pos rfl];exact .head _⟩,rfl,rfl,rfl,rfl⟩
theorem Made.ob_old(m:Made b x){i:Nat}(hi:i<b.g.nodes.length)(hp:(ZB b i).part≠0): ∃o∈obs b (ZB b i).part,o.at_=(ZB b i).at_:=by
 obtain⟨h1,h2,h3,h4⟩:=m.pl.old_in hi hp
 have hne: ¬(Z8 b i).part=(ZB b i).part:=by
  by_cases h0:(Z8 b i).part=0
  ·omega
  ·have:=(m.pl.here_in hi h0).1;omega
 by_cases h0:(Z8 b i).part=0
 ·exact⟨_,Ue.2 ⟨i,hi,by unfold obAt;rw[if_neg hne,if_pos rfl,if_pos h0];exact .head _⟩,rfl⟩
 ·exact⟨_,Ue.2 ⟨i,hi,by unfold obAt;rw[if_neg hne,if_pos rfl,if_neg h0];exact .head _⟩,rfl⟩
theorem Made.to_here(m:Made b x){i:Nat}(hi:i<b.g.nodes.length):YI (Y9 x b) (ptsB b) (refB b.h (Z8 b i)) 1 2=true:=by
 by_cases h0:(Z8 b i).part=0
 ·have:refB b.h (Z8 b i)=0:=by unfold refB;rw[if_pos h0]
  rw[this]
  simp[YI]
 ·obtain⟨h1,h2,h3⟩:=m.pl.here_in hi h0
  have hs:=UW (ndAt b i)
  obtain⟨o,ho,ha,_⟩:=m.ob_here hi h0
  rw[m.pl.ref_here m.lay hi h0]
  unfold YI
  rw[XH m.lay (by omega)]
  have:(atR (Y9 x b) (Z8 b i).part (obs b (Z8 b i).part) (fstL (layH b.h) (Z8 b i).part+(Z8 b i).at_)).isSome=true:=by
   refine Ua.2 ⟨o,ho,?_⟩
   rw[ha,m.start (by omega) ⟨by omega,by omega⟩]
  rcases h1 with h|h
  ·rw[h]at this
   rw[h]
   simp only[S9 b (show 1≤(1:Int)∧(1:Int)≤4 by omega),this]
   simp
  ·rw[h]at this
   rw[h]
   simp only[S9 b (show 1≤(2:Int)∧(2:Int)≤4 by omega),this]
   simp
theorem Made.to_old(m:Made b x){i:Nat}(hi:i<b.g.nodes.length):YI (Y9 x b) (ptsB b) (refB b.h (ZB b i)) 3 4=true:=by
 by_cases h0:(ZB b i).part=0
 ·have:refB b.h (ZB b i)=0:=by unfold refB;rw[if_pos h0]
  rw[this]
  simp[YI]
 ·obtain⟨h1,h2,_,h3⟩:=m.pl.old_in hi h0
  have hs:=UW (ndAt b i)
  obtain⟨o,ho,ha⟩:=m.ob_old hi h0
  rw[m.pl.ref_old m.lay hi h0]
  unfold YI
  rw[XH m.lay (by omega)]
  have:(atR (Y9 x b) (ZB b i).part (obs b (ZB b i).part) (fstL (layH b.h) (ZB b i).part+(ZB b i).at_)).isSome=true:=by
   refine Ua.2 ⟨o,ho,?_⟩
   rw[ha,m.start (by omega) ⟨by omega,by omega⟩]
  rcases h1 with h|h
  ·rw[h]at this
   rw[h]
   simp only[S9 b (show 1≤(3:Int)∧(3:Int)≤4 by omega),this]
   simp
  ·rw[h]at this
   rw[h]
   simp only[S9 b (show 1≤(4:Int)∧(4:Int)≤4 by omega),this]
   simp
theorem Made.same_at(m:Made b x){k:Int}(hk:1≤k∧k≤4){o q:Ob}(ho:o∈obs b k)(hq:q∈obs b k)(h:q.at_=o.at_):q=o:=by
 have ht:=m.tiles hk
 rcases ht.apart q hq o ho with h1|h1|h1
 ·exact h1
 ·have:=Z7.1 (ht.stands q hq).1.shape;omega
 ·have:=Z7.1 (ht.stands o ho).1.shape;omega
theorem Made.ob_in(m:Made b x){k:Int}(hk:1≤k∧k≤4){o:Ob}(ho:o∈obs b k):0≤o.at_∧o.at_<sizL (layH b.h) k:=by
 have hs:=((m.tiles hk).stands o ho).1
 have h1:=Z7.1 hs.shape
 have h2:=hs.fits
 have h3:=hs.nat
 have:sizL (layH b.h) k=(Z6 (Y9 x b) k).length:=by rw[←m.fill.2.1,QV _ hk]
 omega
theorem Made.find(m:Made b x){k:Int}(hk:1≤k∧k≤4){o:Ob}(ho:o∈obs b k):atR (Y9 x b) k (obs b k) (fstL (layH b.h) k+o.at_)=some o:=by
 rw[←m.start hk (m.ob_in hk ho)]
 refine Z0d ho fun q hq e=>m.same_at hk ho hq ?_
 rw[m.start hk (m.ob_in hk ho),m.start hk (m.ob_in hk hq)]at e
 omega
theorem RM{k:Int}{i:Nat}{o:Ob}(h:o∈obAt b k i)(hg:o.gone=true): ¬(Z8 b i).part=k∧(ZB b i).part=k∧ ¬(Z8 b i).part=0∧o=⟨(ZB b i).at_,((ndAt b i).ptrs.length:Int)+(ndAt b i).data.length,(ndAt b i).ptrs.length,true,(adr (refB b.h (Z8 b i))).1⟩:=by
 unfold obAt at h
 split at h
 ·simp at h;subst h;simp at hg
 rename_i h1
 split at h
 ·rename_i h2
  split at h
  ·simp at h;subst h;simp at hg
  ·rename_i h3
   simp at h
   exact⟨h1,h2,h3,h⟩
 ·simp at h
theorem Made.gone(m:Made b x){k:Int}(hk:3≤k∧k≤4):SM (Y9 x b) (obs b 1) (obs b k):=by
 intro o ho hg
 obtain⟨i,hi,hoi⟩:=Ue.1 ho
 obtain⟨h1,h2,h3,rfl⟩:=RM hoi hg
 obtain⟨u1,u2,u3⟩:=m.pl.here_in hi h3
 have hn2:=(m.pl.old_in hi (by omega)).2.2.1
 have hp1:(Z8 b i).part=1:=by omega
 obtain⟨q,hq,q1,q2,q3,_⟩:=m.ob_here hi h3
 rw[hp1]at hq
 refine⟨q,?_,q2,q3⟩
 simp only
 rw[m.pl.ref_here m.lay hi h3,XH m.lay (by omega),hp1,←q1]
 exact m.find (by omega) hq
theorem Made.parts(m:Made b x):Y0 (Y9 x b)=some (ptsB b):=
 KH (m.tiles (k:=1) (by omega)) (m.tiles (k:=2) (by omega)) (m.tiles (k:=3) (by omega)) (m.tiles (k:=4) (by omega)) (m.gone (by omega)) (m.gone (by omega))
theorem SU(l r:List Ob)(a:Int):tgL (l++r) a=tgL l a+tgL r a:=by simp[tgL]
theorem Z26(b:Bt)(k:Int)(j:Nat)(a:Int):tgL (obAt b k j) a=if ¬(Z8 b j).part=k∧(ZB b j).part=k∧ ¬(Z8 b j).part=0∧(adr (refB b.h (Z8 b j))).1=a then 1 else 0:=by
 unfold obAt
 by_cases h1:(Z8 b j).part=k
 ·rw[if_pos h1,if_neg (fun h=>h.1 h1)]
  simp[tgL]
 rw[if_neg h1]
 by_cases h2:(ZB b j).part=k
 ·rw[if_pos h2]
  by_cases h3:(Z8 b j).part=0
  ·rw[if_pos h3,if_neg (fun h=>h.2.2.1 h3)]
   simp[tgL]
  ·rw[if_neg h3]
   by_cases h4:(adr (refB b.h (Z8 b j))).1=a
   ·rw[if_pos ⟨h1,h2,h3,h4⟩]
    simp[tgL,h4]
   ·rw[if_neg (fun h=>h4 h.2.2.2)]
    simp[tgL,h4]
 ·rw[if_neg h2,if_neg (fun h=>h2 h.2.1)]
  simp[tgL]
theorem Made.once(m:Made b x)(hc:b.h.cycle=true){i:Nat}(hi:i<b.g.nodes.length)(hp:(Z8 b i).part=1):TQ (ptsB b) (fstL (layH b.h) 1+(Z8 b i).at_)=1:=by
 have key: ∀j,j≤b.g.nodes.length→tgL ((List.range j).flatMap (obAt b 3)) (fstL (layH b.h) 1+(Z8 b i).at_)+tgL ((List.range j).flatMap (obAt b 4)) (fstL (layH b.h) 1+(Z8 b i).at_)=if i<j then 1 else 0:=by
  intro j
  induction j with
  |zero=>intro _;simp[tgL]
  |succ j ih=>
   intro hj
   have ih:=ih (by omega)
   have hjl:j<b.g.nodes.length:=by omega
   rw[List.range_succ,List.flatMap_append,List.flatMap_append,SU,SU]
   simp only[List.flatMap_cons,List.flatMap_nil,List.append_nil]
   have hone:tgL (obAt b 3 j) (fstL (layH b.h) 1+(Z8 b i).at_)+tgL (obAt b 4 j) (fstL (layH b.h) 1+(Z8 b i).at_)=if j=i then 1 else 0:=by
    rw[Z26,Z26]
    by_cases h0:(Z8 b j).part=0
    ·have: ¬j=i:=fun e=>by subst e;omega
     rw[if_neg this,if_neg (fun h=>h.2.2.1 h0),if_neg (fun h=>h.2.2.1 h0)]
    obtain⟨u1,u2,u3⟩:=m.pl.here_in hjl h0
    by_cases hj1:(Z8 b j).part=1
    ·have ho:=m.cyc hc j hjl hj1
     obtain⟨v1,_⟩:=m.pl.old_in hjl ho
     have htg:(adr (refB b.h (Z8 b j))).1=fstL (layH b.h) 1+(Z8 b j).at_:=by rw[m.pl.ref_here m.lay hjl h0,XH m.lay (by omega),hj1]
     have heq:(fstL (layH b.h) 1+(Z8 b j).at_=fstL (layH b.h) 1+(Z8 b i).at_)↔j=i:=by
      constructor
      ·intro e
       obtain⟨w1,w2,w3⟩:=m.pl.here_in hi (by omega)
       rw[hj1]at u2
       rw[hp]at w2
       have hs1:=UW (ndAt b i)
       have hs2:=UW (ndAt b j)
       have bi:(blk b x 1 i).length=sizN (ndAt b i):=by unfold blk;rw[if_pos hp];exact ZY _ _ _ _
       have bj:(blk b x 1 j).length=sizN (ndAt b j):=by unfold blk;rw[if_pos hj1];exact ZY _ _ _ _
       by_cases hlt:j<i
       ·obtain⟨r,hr⟩:=VL b x 1 (show j+1≤i by omega)
        rw[Yk]at hr
        have:=congrArg List.length hr
        simp[bj]at this
        omega
       ·by_cases hgt:i<j
        ·obtain⟨r,hr⟩:=VL b x 1 (show i+1≤j by omega)
         rw[Yk]at hr
         have:=congrArg List.length hr
         simp[bi]at this
         omega
        ·omega
      ·rintro rfl;rfl
     rw[htg]
     rcases v1 with v|v
     ·rw[if_neg (show ¬(¬(Z8 b j).part=4∧(ZB b j).part=4∧_)from fun h=>by have:=h.2.1;omega)]
      by_cases hji:j=i
      ·rw[if_pos hji,if_pos ⟨by omega,v,h0,heq.2 hji⟩]
      ·rw[if_neg hji,if_neg (fun h=>hji (heq.1 h.2.2.2))]
     ·rw[if_neg (show ¬(¬(Z8 b j).part=3∧(ZB b j).part=3∧_)from fun h=>by have:=h.2.1;omega)]
      by_cases hji:j=i
      ·rw[if_pos hji,if_pos ⟨by omega,v,h0,heq.2 hji⟩]
      ·rw[if_neg hji,if_neg (fun h=>hji (heq.1 h.2.2.2))]
    ·have hp2:(Z8 b j).part=2:=by omega
     have hold:(ZB b j).part=0:=by
      by_cases h:(ZB b j).part=0
      ·exact h
      ·exact absurd hp2 (m.pl.old_in hjl h).2.2.1
     have: ¬j=i:=fun e=>by subst e;omega
     rw[if_neg this,if_neg (fun h=>by have:=h.2.1;omega),if_neg (fun h=>by have:=h.2.1;omega)]
   by_cases hji:j=i
   ·subst hji
    rw[if_pos rfl]at hone
    rw[if_neg (Nat.lt_irrefl _)]at ih
    rw[if_pos (Nat.lt_succ_self _)]
    omega
   ·rw[if_neg hji]at hone
    by_cases hij:i<j
    ·rw[if_pos hij]at ih
     rw[if_pos (show i<j+1 by omega)]
     omega
    ·rw[if_neg hij]at ih
     rw[if_neg (show ¬i<j+1 by omega)]
     omega
 have:=key b.g.nodes.length (Nat.le_refl _)
 rw[if_pos hi]at this
 exact this
end
end Vm
end
section
namespace Vm
open Go Go.Proofs
set_option maxRecDepth 100000
set_option maxHeartbeats 1000000
section
variable {b:Bt} {x:Rw}
theorem Made.word(m:Made b x){k:Int}(hk:1≤k∧k≤4){i t:Nat}(hi:i<b.g.nodes.length)(ht:t< (blk b x k i).length):(Z6 (Y9 x b) k)[(cat b x k i).length+t]? =(blk b x k i)[t]? :=by
 rw[SE m.pl hk]
 obtain⟨r,hr⟩:=VL b x k (show i+1≤b.g.nodes.length by omega)
 rw[hr,Yk,List.append_assoc,List.getElem?_append_right (by omega),Nat.add_sub_cancel_left,List.getElem?_append_left ht]
theorem SL{p:Pl}{n:Nd}{tw:Int}{j:Nat}(hj:j<n.ptrs.length): ∃q∈n.ptrs,(X9 b p n tw)[1+j]? =some (V6 b ⟨p.part,((p.at_.toNat+1+j:Nat):Int)⟩ q (IntKind.i64.wrap (tw+j))):=by
 refine⟨n.ptrs[j],List.getElem_mem hj,?_⟩
 unfold X9
 rw[Nat.add_comm 1 j,List.getElem?_cons_succ,List.getElem?_append_left (by simp[Y5];exact hj)]
 simp[Y5,hj]
theorem TT(h:Hp)(p:Pts)(k j:Int):YI h p 0 k j=true:=by simp[YI]
theorem Made.ptr_ok(m:Made b x)(hp: ∀n∈b.g.nodes,∀q∈n.ptrs,-1≤q∧q< (b.g.nodes.length:Int)){i:Nat}(hi:i<b.g.nodes.length){k:Int}{p:Pl}(hk:p.part=k){a:Nat}{tq_ tw:Int}(hto:tq_∈(ndAt b i).ptrs)(hw:((Z6 (Y9 x b) k)[a]?).getD 0=V6 b ⟨p.part,(a:Int)⟩ tq_ tw):Uo (Y9 x b) (ptsB b) k a=true:=by
 have hb:=hp (ndAt b i) (by unfold ndAt;rw[List.getElem?_eq_getElem hi];exact List.getElem_mem hi) tq_ hto
 unfold Uo
 simp only[hw]
 unfold V6
 rw[hk]
 by_cases h0:tq_<0
 ·rw[if_pos h0]
  simp[TT]
 obtain⟨t,rfl⟩:=Int.eq_ofNat_of_zero_le (show 0≤tq_ by omega)
 have ht:t<b.g.nodes.length:=by omega
 rw[if_neg h0]
 have g1:=m.to_here (i:=t) ht
 have g2:=m.to_old (i:=t) ht
 unfold Z8 at g1
 unfold ZB at g2
 simp only[Int.toNat_natCast]
 by_cases h2:2<k
 ·rw[if_pos h2,if_pos h2]
  exact g2
 rw[if_neg h2,if_neg h2]
 rw[m.fill.2.2.1]
 by_cases h3:k=1∧b.h.scan≤(a:Int)
 ·rw[if_pos h3]
  split
  ·rw[g2];simp
  ·rw[g1];simp
 ·rw[if_neg h3,if_neg (fun h=>h3 ⟨h.1,h.2.1⟩)]
  exact g1
theorem Made.ptrs(m:Made b x)(hp: ∀n∈b.g.nodes,∀q∈n.ptrs,-1≤q∧q< (b.g.nodes.length:Int)){k:Int}(hk:1≤k∧k≤4):XZ (Y9 x b) (ptsB b) k=true:=by
 unfold XZ
 rw[S9 b hk,List.all_eq_true]
 intro o ho
 obtain⟨i,hi,hoi⟩:=Ue.1 ho
 unfold Lk
 rw[List.all_eq_true]
 intro j hj
 rw[List.mem_range]at hj
 unfold obAt at hoi
 split at hoi
 ·rename_i h1
  simp at hoi
  subst hoi
  simp only[Int.toNat_natCast]at hj
  obtain⟨_,q2,_⟩:=m.pl.here_in hi (by omega)
  rw[h1]at q2
  have hb:blk b x k i=X9 b (Z8 b i) (ndAt b i) (IntKind.i64.wrap (x.slack+i)):=by unfold blk;rw[if_pos h1]
  obtain⟨q,hq,hs⟩:=SL (b:=b) (p:=Z8 b i) (tw:=IntKind.i64.wrap (x.slack+i)) hj
  have hw:=m.word hk hi (t:=1+j) (by rw[hb,ZY];unfold sizN;omega)
  rw[hb,hs]at hw
  simp only
  refine m.ptr_ok hp hi h1 (tw:=IntKind.i64.wrap (IntKind.i64.wrap (x.slack+i)+j)) hq ?_
  rw[q2]at hw⊢
  simp only[Int.toNat_natCast]at hw⊢
  rw[←Nat.add_assoc]at hw
  rw[hw]
  rfl
 rename_i h1
 split at hoi
 ·rename_i h2
  obtain⟨_,q2,_⟩:=m.pl.old_in hi (by omega)
  rw[h2]at q2
  split at hoi
  ·rename_i h3
   simp at hoi
   subst hoi
   simp only[Int.toNat_natCast]at hj
   have hb:blk b x k i=X9 b (ZB b i) (ndAt b i) 0:=by unfold blk;rw[if_neg h1,if_pos h2,if_pos h3]
   obtain⟨q,hq,hs⟩:=SL (b:=b) (p:=ZB b i) (tw:=0) hj
   have hw:=m.word hk hi (t:=1+j) (by rw[hb,ZY];unfold sizN;omega)
   rw[hb,hs]at hw
   simp only
   refine m.ptr_ok hp hi h2 (tw:=IntKind.i64.wrap (0+j)) hq ?_
   rw[q2]at hw⊢
   simp only[Int.toNat_natCast]at hw⊢
   rw[←Nat.add_assoc]at hw
   rw[hw]
   rfl
  ·rename_i h3
   simp at hoi
   subst hoi
   simp only[Int.toNat_natCast]at hj
   have hb:blk b x k i=VH b (Z8 b i) (ndAt b i):=by unfold blk;rw[if_neg h1,if_pos h2,if_neg h3]
   have hw:=m.word hk hi (t:=1+j) (by rw[hb,Xk];unfold sizN;omega)
   have hz:(VH b (Z8 b i) (ndAt b i))[1+j]? =some 0:=by
    unfold VH
    rw[Nat.add_comm 1 j,List.getElem?_cons_succ,List.getElem?_replicate,if_pos (by unfold sizN;omega)]
   rw[hb,hz]at hw
   unfold Uo
   simp only
   rw[q2,Int.toNat_natCast,show(cat b x k i).length+1+j=(cat b x k i).length+(1+j)by omega,hw]
   simp[TT]
 ·simp at hoi
theorem Made.right(m:Made b x)(hp: ∀n∈b.g.nodes,∀q∈n.ptrs,-1≤q∧q< (b.g.nodes.length:Int)):Yb (Y9 x b)=true:=by
 have hl:=m.fill.2.1
 have hlow:(Y9 x b).low.length=b.h.low.length:=by have:=congrArg Ly.low hl;simp only[layH]at this;omega
 have hhigh:(Y9 x b).high.length=b.h.high.length:=by have:=congrArg Ly.high hl;simp only[layH]at this;omega
 have hold:(Y9 x b).old.length=b.h.old.length:=by have:=congrArg Ly.old hl;simp only[layH]at this;omega
 have hfar:(Y9 x b).far.length=b.h.far.length:=by have:=congrArg Ly.far hl;simp only[layH]at this;omega
 have hcap:(Y9 x b).cap=b.h.cap:=congrArg Ly.cap hl
 refine KO ?_ m.parts ?_
 ·unfold numR
  have hs:=m.scan
  have hrl:=m.pl.ok.rl
  have hro:(Y9 x b).roots.length≤5:=by simp only[Y9,List.length_map];exact hrl
  rw[hl,m.lay,m.fill.2.2.1,m.fill.2.2.2,hlow,hold,hfar]
  obtain⟨s1,s2,s3⟩:=hs
  cases hc:b.h.cycle
  ·rw[hc]at s3
   simp only[Bool.false_eq_true,if_false]at s3
   simp[s1,s2,s3]
   omega
  ·rw[hc]at s3
   simp only[if_true]at s3
   simp[s1,s2,s3]
   omega
 ·unfold VN
  simp only[Bool.and_eq_true,decide_eq_true_eq]
  refine⟨⟨⟨⟨⟨⟨?_,?_⟩,m.ptrs hp (by omega)⟩,m.ptrs hp (by omega)⟩,m.ptrs hp (by omega)⟩,m.ptrs hp (by omega)⟩,?_⟩
  ·rw[m.fill.2.2.2]
   cases hc:b.h.cycle
   ·rfl
   ·simp only[Bool.not_true,Bool.false_or,List.all_eq_true]
    intro o ho
    obtain⟨i,hi,hoi⟩:=Ue.1 ho
    have h1:(Z8 b i).part=1∧o.at_=(Z8 b i).at_:=by
     unfold obAt at hoi
     split at hoi
     ·rename_i h1;simp at hoi;subst hoi;exact⟨h1,rfl⟩
     split at hoi
     ·rename_i h2
      have:=(m.pl.old_in hi (by omega)).1
      omega
     ·simp at hoi
    have hin:=m.ob_in (k:=1) (by omega) ho
    unfold tgOk
    rw[m.start (by omega) hin,h1.2,decide_eq_true_eq]
    exact m.once hc hi h1.1
  ·rw[List.all_eq_true]
   intro w hw
   simp only[Y9,List.mem_map]at hw
   obtain⟨r,hr,rfl⟩:=hw
   have hrl:=m.pl.ok.rts r hr
   by_cases h0:0≤r
   ·rw[if_pos h0]
    have hlk:=Qf (x:=x) m.pl.ok b.g.nodes.length (Nat.le_refl _)
    rw[Se hlk]
    obtain⟨t,rfl⟩:=Int.eq_ofNat_of_zero_le h0
    exact m.to_here (i:=t) (by omega)
   ·rw[if_neg h0]
    exact TT _ _ _ _
  ·rw[hlow,hhigh,hcap]
   exact m.room
end
end Vm
end
section
namespace Vm
open Go Go.Proofs
set_option maxRecDepth 100000
set_option maxHeartbeats 1000000
theorem SR(l r:List Ob):wtL (l++r)=wtL l+wtL r:=by simp[wtL]
section
variable {x:Rw} {c:Bool}
theorem Z1o{b:Bt}(hpl:Placed b x){i:Nat}(hi:i<b.g.nodes.length):wtL (obAt b 3 i)+wtL (obAt b 4 i)=if(Z8 b i).part=0 then sizN (ndAt b i)else 0:=by
 have hz:((1:Nat)+(((ndAt b i).ptrs.length:Int)+(ndAt b i).data.length).toNat)=sizN (ndAt b i):=by unfold sizN;omega
 rcases hpl.here i hi with ⟨h1,k,hk,hok⟩ | ⟨h1,_⟩
 ·have h0:(Z8 b i).part=0:=by rw[h1]
  rw[if_pos h0]
  rcases hk with rfl|rfl<;>simp[obAt,h0,hok,wtL,wtO,hz]
 ·have e0: ¬(Z8 b i).part=0:=by omega
  have e3: ¬(Z8 b i).part=3:=by omega
  have e4: ¬(Z8 b i).part=4:=by omega
  have: ∀k:Int,¬(Z8 b i).part=k→wtL (obAt b k i)=0:=fun k hk=>by
   unfold obAt
   rw[if_neg hk,if_neg e0]
   split<;>simp[wtL,wtO]
  rw[if_neg e0,this 3 e3,this 4 e4]
theorem qy(hx:x.ok): ∀j,j≤(mkG x.nodes x.roots).nodes.length→wtL ((List.range j).flatMap (obAt (ZJ x c) 3))+wtL ((List.range j).flatMap (obAt (ZJ x c) 4))=(stN x c (mkG x.nodes x.roots) j).wt
 |0,_=>rfl
 |j+1,hj=>by
  have ih:=qy hx j (by omega)
  have h1:=Z1o (UA (c:=c) hx) (i:=j) (by rw[Xx];omega)
  rw[S3 (by omega)]at h1
  have hn:ndAt (ZJ x c) j=((mkG x.nodes x.roots).nodes[j]?).getD default:=rfl
  rw[hn]at h1
  rw[List.range_succ,List.flatMap_append,List.flatMap_append,SR,SR,stN]
  simp only[List.flatMap_cons,List.flatMap_nil,List.append_nil]
  generalize ((mkG x.nodes x.roots).nodes[j]?).getD default=n at*
  unfold Jz at h1
  simp only[ZP]
  rcases Yz x j c with h0|h0| ⟨h0,rfl⟩
  ·simp[h0]at h1⊢;omega
  ·simp[h0]at h1⊢;omega
  ·simp[h0]at h1⊢;omega
theorem qE(x:Rw)(c:Bool): ∀n∈(ZJ x c).g.nodes,∀q∈n.ptrs,-1≤q∧q< ((ZJ x c).g.nodes.length:Int):=by
 rw[Xx]
 exact qr x.nodes x.roots
theorem Z1i(hc:c=false): ∀j,(stN x c (mkG x.nodes x.roots) j).n3=0∧(stN x c (mkG x.nodes x.roots) j).n4=0
 |0=>⟨rfl,rfl⟩
 |j+1=>by
  have:=Z1i hc j
  subst hc
  simpa[stN,ZP]using this
theorem made(hx:x.ok)(hc:c=true→(ZJ x true).h.low.length≠0):Made (ZJ x c) x:=by
 obtain⟨k1,k2,k3⟩:=XB hx c
 refine⟨UA hx,k3,?_,?_,?_,?_,k2⟩
 ·rw[Xx];exact sz9 x
 ·intro hcy i hi h1
  have hct:c=true:=hcy
  subst hct
  rw[Xx]at hi
  rw[S3 hi]at h1
  rw[Lf hi]
  unfold Jz at h1
  unfold oldF
  rcases Yz x i true with h0|h0| ⟨h0,_⟩
  ·simp[h0]at h1
  ·simp[h0]
   cases clsF x i<;>simp
  ·simp[h0]at h1
 ·have hlow:(ZJ x c).h.low.length=(stN x c (mkG x.nodes x.roots) (mkG x.nodes x.roots).nodes.length).n1:=by simp[ZJ]
  cases c
  ·obtain⟨e3,e4⟩:=Z1i (x:=x) (c:=false) rfl (mkG x.nodes x.roots).nodes.length
   rw[hlow]
   have hs:(ZJ x false).h.scan=((stN x false (mkG x.nodes x.roots) (mkG x.nodes x.roots).nodes.length).n1:Int):=by simp[ZJ]
   have hcy:(ZJ x false).h.cycle=false:=rfl
   rw[hs,hcy]
   simp only[Bool.false_eq_true,if_false]
   refine⟨by omega,by omega,trivial,?_,?_⟩<;>simp[ZJ,e3,e4]
  ·have h0:=hc rfl
   rw[hlow]at h0
   rw[hlow]
   have hs:(ZJ x true).h.scan=pick x.scan (stN x true (mkG x.nodes x.roots) (mkG x.nodes x.roots).nodes.length).n1:=by
    simp only[ZJ]
    rw[if_pos ⟨trivial,by omega⟩]
   have hcy:(ZJ x true).h.cycle=true:=rfl
   have hp:=XK (c:=x.scan) (n:=((stN x true (mkG x.nodes x.roots) (mkG x.nodes x.roots).nodes.length).n1:Int)) (by omega)
   rw[hs,hcy]
   simp only[if_true]
   omega
 ·have hw:=qy (c:=c) hx (mkG x.nodes x.roots).nodes.length (Nat.le_refl _)
  have hl:(ZJ x c).h.low.length=(stN x c (mkG x.nodes x.roots) (mkG x.nodes x.roots).nodes.length).n1:=by simp[ZJ]
  have hh:(ZJ x c).h.high.length=(stN x c (mkG x.nodes x.roots) (mkG x.nodes x.roots).nodes.length).n2:=by simp[ZJ]
  have hcap:(ZJ x c).h.cap=max (((stN x c (mkG x.nodes x.roots) (mkG x.nodes x.roots).nodes.length).n1:Int)+(stN x c (mkG x.nodes x.roots) (mkG x.nodes x.roots).nodes.length).n2+(stN x c (mkG x.nodes x.roots) (mkG x.nodes x.roots).nodes.length).wt) (((stN x c (mkG x.nodes x.roots) (mkG x.nodes x.roots).nodes.length).n3:Int)+(stN x c (mkG x.nodes x.roots) (mkG x.nodes x.roots).nodes.length).n4)+pick x.slack 12:=rfl
  have hp:=XK (c:=x.slack) (n:=12) (by omega)
  unfold obs
  rw[Xx,hw,hl,hh,hcap]
  omega
theorem JR(hx:x.ok):Made (ZJ x false) x:=made hx (by simp)
theorem QW(hx:x.ok):Yb (Ty x)=true:=(JR hx).right (qE x false)
theorem yE(hx:x.ok):(Ty x).ok∧(Ty x).cycle=false∧(Ty x).roots.length≤5:=
 ⟨(Rh (XB hx false).1 (XB hx false).2.1).1,(Rh (XB hx false).1 (XB hx false).2.1).2.2.2,by
   have:=(XB hx false).1.rl
   simp only[Ty,Y9,List.length_map]
   exact this⟩
end
end Vm
end
section
namespace Vm
open Go Go.Proofs
set_option maxRecDepth 100000
set_option maxHeartbeats 1000000
theorem KF{h:Hp}(hh:h.ok)(ht:h.to=0∨h.to=1):(V8 h).ok:=by
 have:=Rz hh ht h.roots.length
 unfold V8 Wk
 obtain⟨a1,a2,a3,a4,a5,a6,a7,a8,a9,b1,b2,b3,b4,b5⟩:=this
 split
 ·exact⟨a1,a2,a3,a4,a5,a6,a7,a8,a9,b1,b2,b3,b4,b5⟩
 ·exact⟨a1,a2,a3,a4,a5,a6,Nat.zero_le _,Nat.zero_le _,a9,b1,b2,fun w hw=>(by cases hw),fun w hw=>(by cases hw),b5⟩
end Vm
end
section
namespace Vm
open Go Go.Proofs
set_option maxRecDepth 100000
set_option maxHeartbeats 1000000
end Vm
end
section
namespace Vm
open Go Go.Proofs
set_option maxRecDepth 100000
set_option maxHeartbeats 1000000
theorem qZ{l:List Int}{i:Nat}(h: ∀w∈l,w=0):l.set i 0=l:=by
 apply List.ext_getElem?
 intro j
 rw[List.getElem?_set]
 by_cases e:i=j
 ·subst e
  rw[if_pos rfl]
  by_cases hi:i<l.length
  ·rw[if_pos hi,List.getElem?_eq_getElem hi,h _ (List.getElem_mem hi)]
  ·rw[if_neg hi,List.getElem?_eq_none (by omega)]
 ·rw[if_neg e]
theorem QT{h:Hp}(hl:Z9 (layH (Yv h))=true)(hz: ∀w∈h.roots,w=0): ∀i,WD (Yv h) i=Yv h
 |0=>rfl
 |i+1=>by
  show Qe (WD (Yv h) i) i=_
  rw[QT hl hz i]
  unfold Qe
  have h0:((Yv h).roots[i]?).getD 0=0:=by
   cases e:(Yv h).roots[i]? with
   |none=>rfl
   |some x=>exact hz x (List.mem_of_getElem? e)
  rw[h0,KM hl]
  simp only
  rw[qZ (show ∀w∈(Yv h).roots,w=0 from hz)]
theorem yh{x:Rw}(hx:x.ok):VC Try.prog 5 false [rwV x] (.bool true):=by
 refine Za Try.func5 follows (by kernel_rfl) c5 rfl ?_
 simp[p5]
 refine Z0 LB (by simp) ?_
 simp
 have kh:=j4 hx
 unfold rwV at kh
 refine Z0 kh (by simp) ?_
 obtain⟨hh,hc,hro⟩:=yE hx
 obtain⟨p,r⟩:=Tt.1 (QW hx)
 generalize Ty x=h at*
 have hto:h.to=0∨h.to=1:=by have:=Zu.1 r.lay;exact this.2.2.2.2.1
 have hfR:Wn h=(V8 h,0):=by unfold Wn;rw[if_neg (by rw[r.right];simp),if_neg (by rw[hc];simp)]
 obtain⟨d,hd⟩: ∃d:Hp,d= {h with roots:=List.replicate h.roots.length 0}:=⟨_,rfl⟩
 have hz16: ∀w∈List.replicate h.roots.length (0:Int),w=0:=fun w hw=>(List.mem_replicate.1 hw).2
 have rd:Rt d p:=by rw[hd];exact r.with_roots (by simp;exact r.nroots) fun w hw=> .inl (hz16 w hw)
 have okd:d.ok:=by
  rw[hd]
  obtain⟨a1,a2,a3,a4,a5,a6,a7,a8,a9,b1,b2,b3,b4,b5⟩:=hh
  exact⟨a1,a2,a3,a4,a5,a6,a7,a8,by simp;exact a9,b1,b2,b3,b4,fun w hw=>by rw[hz16 w hw];simp[U64]⟩
 have hdc:d.cycle=false:=by rw[hd];exact hc
 have hdR:Wn d=(V8 d,0):=by unfold Wn;rw[if_neg (by rw[rd.right];simp),if_neg (by rw[hdc];simp)]
 have hdH:V8 d= {Yv d with cycle:=false,old:= [],far:= []}:=by
  unfold V8
  rw[QT (Qr rd hdc).lay (by rw[hd];exact hz16)]
  exact if_neg (by show ¬0< ([]:List Int).length;simp)
 obtain⟨g1,q1,I1,hE1,rE1,_⟩:=L6 rd hdc
 have hto1:d.to=0∨d.to=1:=by have:=Zu.1 rd.lay;exact this.2.2.2.2.1
 have okf1:=KF okd hto1
 have k0:=U7 okd
 rw[hdR]at k0
 have kr0:=RO okf1
 have hrest1:So (V8 d)=V8 d:=by
  unfold So
  rw[if_neg]
  rw[←hE1]at rE1
  rw[rE1.right]
  rw[hdH]
  simp
 rw[hrest1]at kr0
 have ks0:=XA (b:=V8 d) okf1
 rw[hdH]at k0 kr0 ks0
 have kd:d.roots.map vu=List.replicate h.roots.length (vu 0):=by rw[hd];simp
 have kd1:d.low=h.low:=by rw[hd]
 have kd2:d.high=h.high:=by rw[hd]
 have kd3:d.old=h.old:=by rw[hd]
 have kd4:d.far=h.far:=by rw[hd]
 have kd5:d.base=h.base:=by rw[hd]
 have kd6:d.cap=h.cap:=by rw[hd]
 have kd7:d.to=h.to:=by rw[hd]
 have kd8:d.cycle=h.cycle:=by rw[hd]
 have kd9:d.scan=h.scan:=by rw[hd]
 simp only[hpV,Yv,kd,kd1,kd2,kd3,kd4,kd5,kd6,kd7,kd8,kd9,List.map_nil]at k0 kr0 ks0
 clear rE1 I1 hE1
 have k1:=U7 hh
 rw[hfR]at k1
 have okf:=KF hh hto
 obtain⟨g0,q,I,hE,rE,_⟩:=L6 r hc
 have w0:=Z4 (0:Int) (by omega) (by omega)
 simp
 refine⟨by simp only[lim];omega,?_⟩
 refine Z0 k0 (by simp) ?_
 simp[w0]
 refine Z0 kr0 (by simp) ?_
 simp
 refine Z0 ks0 (by simp) ?_
 simp[w0]
 have kr:=RO okf
 have ks:=XA (b:=V8 h) okf
 have hz0:=XA (b:=Hp.zero) VS
 have ob:=fun k=>Z4a okf (k:=k)
 have pt:=fun k=>X3 (h:=V8 h) (n:=k)
 have pw:=fun k=>X3 (h:=h) (n:=k)
 rw[hE]at k1 kr ks okf
 simp only[hE]at ob pt
 by_cases hlow:0<g0.low.length
 ·have hfe:Wk g0= {g0 with cycle:=true}:=if_pos hlow
  have hrs:So (Wk g0)=Hp.zero:=by unfold So;rw[if_pos (.inl (by rw[hfe]))]
  rw[hrs]at kr
  rw[if_pos hlow]at rE
  have ho:g0.old.length=h.low.length:=I.ext.oldL
  have hf:g0.far.length=h.high.length:=I.ext.farL
  have hob: ∀k:Int,3≤k∧k≤4→Rk (Wk g0) k=(q.at k,0):=fun k hk=>rE.objs (by omega)
  have hlen: ∀k:Int,3≤k∧k≤4→(Z6 (Wk g0) k).length=(Z6 h (k-2)).length:=fun k hk=>by
   have:k=3∨k=4:=by omega
   rw[hfe]
   rcases this with rfl|rfl
   ·exact ho
   ·exact hf
  have hsame: ∀k:Int,3≤k∧k≤4→ ∀o∈q.at k,o.gone=false→ ∀j:Nat,(j:Int)≤o.size→(Z6 (Wk g0) k)[o.at_.toNat+j]? =(Z6 h (k-2))[o.at_.toNat+j]? :=fun k hk o hom hg j hj=>by
   obtain⟨i,hi⟩:=List.getElem?_of_mem hom
   have hl:(q.at k).length=((Jb p).at k).length:=by have:=congrArg List.length (I.ext.obsO k hk);simpa using this
   have hil:=(List.getElem?_eq_some_iff.1 hi).1
   have h2:((Jb p).at k)[i]? =some (((Jb p).at k)[i]'(by omega)):=List.getElem?_eq_getElem _
   obtain⟨e1,e2⟩:=(I.ext.gone k hk i _ o h2 hi).2 hg
   have e3:=e2 j (by rw[←e1];exact hj)
   rw[←e1]at e3
   have hp1:Z6 {g0 with roots:=h.roots} k=Z6 (Wk g0) k:=by rw[hfe];rfl
   have hp2:Z6 (Yv h) k=Z6 h (k-2):=by
    have:k=3∨k=4:=by omega
    rcases this with rfl|rfl<;>rfl
   rw[hp1,hp2]at e3
   exact e3
  have tob:=fun(k:Int) (hk:3≤k∧k≤4) (o:Ob) (ho:o∈q.at k)=>rE.toTld.ob (k:=k) (by omega) ho
  have okl:=fun k=>(Zv okf k).2
  have hwl:=fun k=>(Zv hh k).2
  rw[hfe]at k1
  simp only[hpV]at k1
  refine Z0 k1 (by simp) ?_
  rw[hfe]at ks
  have hz0:=XA (a:=Hp.zero) (b:=Hp.zero) VS
  rw[hfe]at kr
  simp only[hpV,Hp.zero,List.map_nil]at kr hz0
  simp[ho,hf]
  refine Z0 kr (by simp) ?_
  simp
  refine Z0 hz0 (by simp) ?_
  simp
  refine Yp (fun k:Nat=> [(14,.v (vi ((k+3:Nat):Int)))]) (fun k=>k≤2) (cnt 14 5) 0 (by simp) (by simp) ?_
  intro k hk
  by_cases hk2:k=2
  ·subst hk2
   simp
  have hki:3≤((k+3:Nat):Int)∧((k+3:Nat):Int)≤4:=by omega
  have wk:=Z4 (((k+3:Nat):Int)+1) (by omega) (by omega)
  have wk2:=Z4 (((k+3:Nat):Int) -2) (by omega) (by omega)
  have ob:=ob ((k+3:Nat):Int)
  rw[hob _ hki]at ob
  have pt:=pt ((k+3:Nat):Int)
  have pw:=pw (((k+3:Nat):Int) -2)
  have hol:=qC okf ((k+3:Nat):Int)
  rw[hob _ hki]at hol
  have tob:=tob _ hki
  have hsame:=hsame _ hki
  have hlk:=hlen _ hki
  have okl:=okl ((k+3:Nat):Int)
  have hk14:((k+3:Nat):Int)≤4:=hki.2
  rw[hfe]at ob pt
  rw[hfe]at tob hsame hlk okl
  generalize hk1:((k+3:Nat):Int)=k1 at*
  generalize q.at k1=l at*
  generalize Z6 {g0 with cycle:=true} k1=A at*
  generalize Z6 h (k1-2)=B at*
  simp only[hpV]at ob pt pw hol
  simp[hk14]
  refine Z0 ob (by simp) ?_
  simp[wk2]
  refine Z0 pw (by simp) ?_
  simp
  refine Z0 pt (by simp) ?_
  simp
  refine V2 21 l.length (fun _=>True) (by simp) (by simp) trivial ?_
  intro i hi _
  have hwi:=Z4 ((i:Int)+1) (by omega) (by omega)
  by_cases hlt:i<l.length
  case neg=>
   have:i=l.length:=by omega
   subst this
   simp[hk14,wk]
   exact⟨k+1,by omega,by rw[←hk1];rfl,by simp[cnt];omega⟩
  have hxi:l[i]? =some l[i]:=List.getElem?_eq_getElem hlt
  have hom:=List.getElem_mem hlt
  generalize l[i]=o at*
  obtain⟨a,n,m,ea,en,em,hal,hn5,hmn⟩:=tob o hom
  obtain⟨e,he⟩: ∃e:Nat,a+1+n=e:=⟨_,rfl⟩
  have we1:=Z4 ((a:Int)+1) (by omega) (by omega)
  have we:IntKind.i64.wrap ((a:Int)+1+n)=(e:Int):=by rw[Z4 _ (by omega) (by omega)];omega
  have hna: ¬(a:Int) <0:=by omega
  have hnn: ¬(n:Int) <0:=by omega
  have hne: ¬(B.length:Int) <e:=by omega
  have hae:a≤e:=by omega
  have heB:e≤B.length:=by omega
  have heA:e≤A.length:=by omega
  have lA:A.length≤4294967296:=by omega
  have lB:B.length≤4294967296:=by omega
  cases hg:o.gone
  ·have hs:=hsame o hom hg
   rw[ea,en,Int.toNat_natCast]at hs
   have heq:(B.take e).drop a=(A.take e).drop a:=by
    apply List.ext_getElem?
    intro j
    rw[List.getElem?_drop,List.getElem?_drop,List.getElem?_take,List.getElem?_take]
    by_cases hj:a+j<e
    ·rw[if_pos hj,if_pos hj,hs j (by omega)]
    ·rw[if_neg hj,if_neg hj]
   have kn:=U8 (a:=(B.take e).drop a) (b:=(A.take e).drop a) (by simp;omega)
   rw[decide_eq_true heq]at kn
   simp only[List.map_drop,List.map_take]at kn
   simp[hlt,hxi,ZK hxi,ea,en,em,hg,we1,we,hna,hnn,hne,hae,heA,heB,Xb]
   refine Z0 kn (by simp) ?_
   simp[hwi,hlt]
  ·simp[hlt,hxi,ZK hxi,ea,en,em,hg,we1,we,hna,hnn,hne,hwi]
 ·have hfe:Wk g0= {g0 with cycle:=false,old:= [],far:= []}:=if_neg hlow
  have hrs:So (Wk g0)=Wk g0:=by unfold So;rw[if_neg (by rw[rE.right,hfe];simp)]
  rw[hrs]at kr
  rw[hfe]at k1 kr ks
  simp only[hpV]at k1 kr ks
  refine Z0 k1 (by simp) ?_
  simp
  refine Z0 kr (by simp) ?_
  simp
  refine Z0 ks (by simp) ?_
  simp
end Vm
end
section
namespace Go.Proofs.Ytjkmonbmpoegjaa
open Vm Go.ChangeShapes Go.WideShapes Go.ChangeAt Go.RowKit
set_option maxRecDepth 100000
theorem flipNone_law(xs:List V)(hl:xs.length=Try.f5.params.toList.length)(ht: ∀(i:Nat) (t:TypeId) (x:V),Try.f5.params.toList[i]? =some t→xs[i]? =some x→tyV Try.prog 8 t x):
  VC Try.prog 5 false xs (.bool true):=by
 rw[Try.params5]at hl ht
 match xs,hl with
 | [x0],_=>
   obtain⟨x,rfl,hx⟩:=Z4R (ht 0 _ x0 rfl rfl)
   exact yh hx
theorem flipNone_lifted(os:Os)(started:os.Started)(H:Type)(enc:TypeId×Value→H):
  ReturnsInHanded {} Try.checked os 5 .any (Rows.flipNoneSpec.pre6 enc Try.prog Try.f5 Rows.flipNoneRow.domain false) (Rows.flipNoneSpec.post enc Try.prog Try.f5 false true false false):=by
 refine returnsInHanded_of_change (C:=Try.checked) own started (by kernel_rfl) Try.func5
  (ChangeSpec.witness6 (enc:=enc) (C:=Try.checked) false ⟨#[], #[.agg #[.slice none 0 0,.slice none 0 0,.slice none 0 0,.int .u64 0,.int .i64 0,.int .i64 0,.int .i64 0]],[]⟩ 8 (by kernel_rfl) (by kernel_rfl) (by kernel_rfl) (by kernel_rfl)) ?_
 intro W base args ds gs before hval hW _ _
 exact J9 (tb:=4) 8 laidOut (by kernel_rfl) (by kernel_rfl) rfl (by kernel_rfl) Try.underlying4 (fun H ds hd=>by
  rw[Try.params5]at hd
  match ds,hd with
  | [_],_=>rfl) flipNone_law H enc W base args ds gs before hval hW
theorem flipNone_holds:Rows.FlipNoneSaid:=
 OpenClaim.holds_of_wide 5 Try.f5 rfl rfl rfl rfl rfl rfl rfl ⟨rfl,rfl,rfl,rfl,rfl⟩ rfl rfl rfl rfl rfl (by kernel_rfl) Try.func5 (by kernel_rfl)
  (of_decide_eq_true (by kernel_rfl)) (by unfold Func.isWrapper;first| (rw[if_pos (by decide+kernel)];kernel_rfl) | (rw[if_neg (by decide+kernel)];exact⟨rfl,rfl⟩))
  (fun os started H enc _=>flipNone_lifted os started H enc)
#print axioms flipNone_holds
end Go.Proofs.Ytjkmonbmpoegjaa
end
