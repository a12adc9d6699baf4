/-
  The law ViewScalars holds of the given program, for every input.
-/
import Derived.Deep.OwnRows
import Derived.Test.YtffknkhabklijaaRows
import Derived.Conc.LeavingOf
import Derived.Test.YtffknkhabklijaaSViewScalars6
set_option linter.unusedSimpArgs false
set_option linter.unusedVariables false
set_option linter.defProp false
set_option maxHeartbeats 4000000
set_option maxRecDepth 100000
theorem Z4l{p:Prop}(h:p:=by simp only[List.mem_cons];grind):p:=h
theorem Z3X{p:Prop}(h:p:=by simp[Value.ownBlock]):p:=h
theorem Z47{p:Prop}(h:p:=by rw[cell_of_row _ _ _ _ _ _ hW.blk];rfl):p:=h
theorem Z4j{p:Prop}(h:p:=by simp[results,Try.results26,go_sem,hfA]):p:=h
theorem Z41{p:Prop}(h:p:=by rw[cell_of_row _ _ _ _ _ _ k3];rfl):p:=h
theorem Z40{p:Prop}(h:p:=by show w.heap.size+1<w1.heap.size;omega):p:=h
section
namespace Vm
open Go
open Go.Proofs
def p3:Fn:=⟨13,[0,1,2,3,6,7,8,9,10,11,12,13,14],
pQ [pR [(3,pS 0 7),pV 4 pF],pC [pK 13 13 []] [pV 5 (.s 13)],pR [(6,pM (.mm 3 0 7) 7)],pR [(6,.m [.m 6 0,.m 6 1,.m 6 2,.one (.s 1),.m 6 4,.m 6 5,.m 6 6])],pC [pK 14 14 [.s 2,pI 5]] [(6,.m [.m 6 0,.m 6 1,.m 6 2,.m 6 3,.bin .add (.m 3 4) (.bin .mul (pI 2) (.s 14)),.m 6 5,.m 6 6])],pR [(6,.m [.m 6 0,.m 6 1,.m 6 2,.m 6 3,.m 6 4,.m 6 5,.bin .add (.m 3 6) (pI 1)])],pC [pK 15 16 [.mm 3 0 7],pK 16 15 [.s 15]] [(7,pM (.sz (.ext (.s 16) 0) 2) 2),pV 8 (.ext (.s 16) 1)],pC [pK 17 16 [.mm 6 0 7],pK 18 15 [.s 17]] [(9,pM (.sz (.ext (.s 18) 0) 2) 2),pV 10 (.ext (.s 18) 1)],pC [pK 19 17 [.mm 7 0 2]] [(11,pM (.sz (.ext (.s 19) 0) 2) 2),pV 12 (.ext (.s 19) 1)],.reg ⟨[.lt 20 [] (.s 5),.lt 21 [] (.ite (.s 20) (.bin .eql (.s 8) (pI 0)) pF),.lt 22 [] (.ite (.s 21) (.bin .eql (.s 10) (pI 0)) pF),.lt 23 [] (.ite (.s 22) (.bin .eql (.s 12) (pI 0)) pF),.call 24 [(23,true)] (.id 18) false false [.mm 7 0 2,.mm 9 0 2],.lt 25 [] (.ite (.s 23) (.s 24) pF),.call 26 [(25,true)] (.id 18) false false [.mm 7 0 2,.mm 11 0 2],.lt 27 [] (.ite (.s 25) (.s 26) pF),.call 28 [(27,true)] (.id 19) false false [.mm 7 0 2],.lt 29 [] (.ite (.s 27) (.s 28) pF),.call 30 [(29,true)] (.id 16) false false [.mm 3 0 7],.call 31 [(29,true)] (.id 20) false false [.s 30],.call 32 [(29,true)] (.id 21) false false [.mm 7 0 2]],[([(20,true)],.bin .eql (.s 8) (pI 0)),([(21,true)],.bin .eql (.s 10) (pI 0)),([(22,true)],.bin .eql (.s 12) (pI 0)),([(29,true)],.bin .eql (.s 31) (.s 32))],[pV 4 (.ite (.s 29) (.bin .eql (.s 31) (.s 32)) pF)]⟩] .ret,[(4,.v)]⟩
def c3:Zf (bes Try.prog) fresh sig [.fz,.fz,.fz] [] Try.f3=some p3:=Z2
def p14:Fn:=⟨4,[0,1,4,6],
pQ [pR [pV 2 (pI 0)],pQ [pR [pV 3 (.bin .lss (.s 0) (pI 0))]] (.cond (.s 3) (pR [pV 0 (.un .neg (.bin .add (.s 0) (pI 1)))]) .skip),pR [pV 2 (.bin .rem (.s 0) (.s 1))]] .ret,[(2,.v)]⟩
def c14:Zf (bes Try.prog) fresh sig [.fz,.fz] [] Try.f14=some p14:=Z2
end Vm
end
section
namespace Vm
open Go Go.Proofs
instance fitPick12:FitF (bes Try.prog) 14:=Qz (P:=Try.prog) Try.func14 rfl Z2
def qd{c n:Int}(hc:Fit c)(hn:0<n):VC (bes Try.prog) 14 false [vi c,vi n] (vi (pick c n)):=by
 refine Z8 (P:=bes Try.prog) Try.func14 Tr Z2 c14 rfl ?_;obtain⟨h1,h2⟩:=hc;by_cases h:c<0
 ·simp[p14,h];simp(disch:=omega) only[Z7];refine⟨Z0,?_⟩;unfold pick;rw[if_pos h,Z5p Z0]
 ·simp[p14,h];refine⟨Z0,?_⟩;unfold pick;rw[if_neg h,Z5p Z0]
def Dv{a b:Gr}(ha:a.sm)(hb:b.sm):VC (bes Try.prog) 24 false [grV a,grV b] (.bool (zw a b)):=up (GM ha hb) (nom2 (Rf a) (Rf b)) (.bool _)
instance fitPlaces:FitF (bes Try.prog) 3:=Qz (P:=Try.prog) Try.func3 rfl Z2
instance fitRest:FitF (bes Try.prog) 5:=Qz (P:=Try.prog) Try.func5 rfl Z2
end Vm
end
section
namespace Vm
open Go Go.Proofs Go.RowKit
def E1(w:World)(b:Nat)(r:Int)(br n cap:Nat)(v:Value)(hr:0<=r)(hrn:r< (n:Int))(hcap:(n:Int)<=9223372036854775807)
  (h1:w.cell? ⟨b,1,none⟩=some (.slice (some ⟨br,0,none⟩) n cap)) (h3:w.cell? ⟨b,3,none⟩=some (.int .i64 r))
  (hc:w.cell? ⟨br,r.toNat,none⟩=some v) (hf:w.frozen? ⟨br,r.toNat,none⟩=false):
  Calls Sol.prog 90 #[.pointer (some ⟨b,0,none⟩)] w λe w'=>e=.returned (.tuple #[.int .u64 0,.int .i64 0])/\Wrote w ⟨br,r.toNat,none⟩ (.int .i64 (-1)) w':=by
 go_enter Sol.func90,Try.ntmps90;go_wp2
 go_still_tail 11,Z2
 change wpList _ _ _ _ _ w.drew;have hd:Dr w w.drew:=(Dr.refl w).drew;rw[<-hd.cell]at h1 h3 hc;rw[<-hd.frozen]at hf;have HD:=Z4O hd;clear hd;generalize w.drew=w2 at*;go_wp2
 go_ret2
 exact⟨rfl,w2,HD.out,rfl⟩
def NodesOwn(w:World)(B:Nat):List Nd->List Value->Prop
 | [],xs=>xs=[]
 |n::ns,xs=>∃pv dv r,xs=pv::dv::r/\w.ownsRow B 3 1 pv n.ptrs.length (nums .i64 n.ptrs)/\w.ownsRow B 24 1 dv n.data.length (nums .u64 n.data)/\NodesOwn w B ns r
def NodesOwn.lt{w:World}{B:Nat}:∀ {ns:List Nd} {xs:List Value},NodesOwn w B ns xs->∀x∈xs,∀b,x.ownBlock=some b->B<=b/\b<w.heap.size
 | [],xs,h,x,hx,b,hb=>by cases(show xs=[]from h);cases hx
 |n::ns,xs,h,x,hx,b,hb=>by
  obtain⟨pv,dv,r,rfl,h1,h2,h3⟩:=h;obtain rfl|hx:=Z4H.1 hx
  ·exact h1.lt b hb
  ·obtain rfl|hx:=Z4H.1 hx
   ·exact h2.lt b hb
   ·exact h3.lt x hx b hb
def NodesOwn.keep{w w':World}{B:Nat}:∀ {ns:List Nd} {xs:List Value},NodesOwn w B ns xs->(∀x∈xs,∀b,x.ownBlock=some b->w'.heap[b]?=w.heap[b]?)->NodesOwn w' B ns xs
 | [],xs,h,_=>h
 |n::ns,xs,h,hs=>by
  obtain⟨pv,dv,r,rfl,h1,h2,h3⟩:=h;exact⟨pv,dv,r,rfl,ZB h1 (hs pv Z1),ZB h2 (hs dv Z1),h3.keep λx hx=>hs x (by simp[hx])⟩
def NodesOwn.snoc{w:World}{B:Nat}{n:Nd}{pv dv:Value}(h1:w.ownsRow B 3 1 pv n.ptrs.length (nums .i64 n.ptrs))(h2:w.ownsRow B 24 1 dv n.data.length (nums .u64 n.data)):
  ∀ {ns:List Nd} {xs:List Value},NodesOwn w B ns xs->NodesOwn w B (ns++[n]) (xs++[pv,dv])
 | [],xs,h=>by cases(show xs=[]from h);exact⟨pv,dv,[],rfl,h1,h2,rfl⟩
 |m::ns,xs,h=>by
  obtain⟨p,d,r,rfl,h3,h4,h5⟩:=h;exact⟨p,d,r++[pv,dv],rfl,h3,h4,NodesOwn.snoc h1 h2 h5⟩
structure OwnSt (w wr:World) (b2 b3:Nat) (g:Gr) (k:Nat) (rv nv:Value) (xs:List Value):Prop where
 below:Below w.heap.size w wr
 b2_ge:w.heap.size<=b2
 b3_ge:w.heap.size<=b3
 blk2:wr.heap[b2]?=some (.cells #[.slice none 0 0,.slice none 0 0] 31 (0,0))
 blk3:wr.heap[b3]?=some (.cells #[nv,rv] 31 (0,0))
 roots:wr.ownsRow w.heap.size 3 1 rv g.roots.length (nums .i64 g.roots)
 nodes:wr.ownsRow w.heap.size 63 2 nv k xs
 inner:NodesOwn wr w.heap.size (g.nodes.take k) xs
 apart:JJ (some b2::some b3::rv.ownBlock::nv.ownBlock::xs.map Value.ownBlock)
def OwnSt.lt{w wr:World}{b2 b3:Nat}{g:Gr}{k:Nat}{rv nv:Value}{xs:List Value}(h:OwnSt w wr b2 b3 g k rv nv xs):∀o∈(some b2::some b3::rv.ownBlock::nv.ownBlock::xs.map Value.ownBlock),∀b,o=some b->b<wr.heap.size:=by
 intro o ho b hb;subst hb;simp only[Z4H,Z4I]at ho;obtain ho|ho|ho|ho|⟨x,hx,ho⟩:=ho
 ·cases ho;exact Zv h.blk2
 ·cases ho;exact Zv h.blk3
 ·exact(h.roots.lt b ho.symm).2
 ·exact(h.nodes.lt b ho.symm).2
 ·exact(h.inner.lt x hx b ho).2
def OwnSt.next{w wr w1 w6 w7 w8:World}{b2 b3 gg cap:Nat}{g:Gr}{k:Nat}{nd:Nd}{rv nv v21 v24:Value}{xs:List Value}{X Y:Obj}(h:OwnSt w wr b2 b3 g k rv nv xs)(hk:g.nodes[k]?=some nd)
  (hw1:w1.heap=(wr.alloc X).heap/\w1.os=wr.os/\w1.tape=wr.tape/\w1.output=wr.output)
  (h6:w1.grownBy w6 none) (o6:w6.ownsRow w.heap.size 3 1 v21 nd.ptrs.length (nums .i64 nd.ptrs)) (a6:∀b,v21.ownBlock=some b->wr.heap.size<b)
  (h7:w6.grownBy w7 none) (o7:w7.ownsRow w.heap.size 24 1 v24 nd.data.length (nums .u64 nd.data)) (a7:∀b,v24.ownBlock=some b->w6.heap.size<=b)
  (h8:(w7.alloc Y).grownBy w8 nv.ownBlock) (o8:w8.ownsRow w.heap.size 63 2 (.slice (some ⟨gg,0,none⟩) (k+1) cap) (k+1) (xs++[v21,v24])) (a8:nv.ownBlock=some gg\/gg=w7.heap.size+1):
  OwnSt w (w8.setCell ⟨b3,0,none⟩ (.slice (some ⟨gg,0,none⟩) (k+1) cap)) b2 b3 g (k+1) rv (.slice (some ⟨gg,0,none⟩) (k+1) cap) (xs++[v21,v24]):=by
 have hlt:=h.lt;have hap:=h.apart;obtain⟨e1,e2,e3,e4⟩:=hw1;have s1:w1.heap.size=wr.heap.size+1:=by rw[e1];simp
 have s6:=h6.size;have s7:=h7.size;have s8:=h8.size;have s8':(w7.alloc Y).heap.size=w7.heap.size+1:=Z1;simp only[JJ,Z5S]at hap;obtain⟨p2,p3,pr,pn,px⟩:=hap
 have old:∀b,b<wr.heap.size->some b≠nv.ownBlock->b≠b3->(w8.setCell ⟨b3,0,none⟩ (.slice (some ⟨gg,0,none⟩) (k+1) cap)).heap[b]?=wr.heap[b]? :=by
  intro b hb hn h3;rw[Z4Y _ _ _ _ Z0,h8.block b Z0 hn,Z4U _ _ _ Z0,h7.block b Z0 Z1,h6.block b Z0 Z1,e1,Z4U _ _ _ hb]
 have n3:∀b,nv.ownBlock=some b->b≠b3:=λb hb e=>p3 nv.ownBlock Z1 b3 rfl (by rw[hb,e]);have n2:some b2≠nv.ownBlock:=λe=>p2 nv.ownBlock Z1 b2 rfl e.symm;have n32:b2≠b3:=λe=>p2 (some b3) Z1 b2 rfl (by rw[e]);have nr:∀b,rv.ownBlock=some b->some b≠nv.ownBlock/\b≠b3/\b<wr.heap.size:=λb hb=>⟨λe=>pr nv.ownBlock Z1 b hb e.symm,λe=>p3 rv.ownBlock Z1 b3 rfl (by rw[hb,e]),hlt _ Z1 b hb⟩;have nx:∀x∈xs,∀b,x.ownBlock=some b->some b≠nv.ownBlock/\b≠b3/\b<wr.heap.size:=λx hx b hb=>⟨λe=>pn x.ownBlock (Z4I.2 ⟨x,hx,rfl⟩) b e.symm hb,λe=>p3 x.ownBlock (by simp only[Z4H,Z4I];grind) b3 rfl (by rw[hb,e]),hlt x.ownBlock (by simp only[Z4H,Z4I];grind) b hb⟩;have hnl:∀b,nv.ownBlock=some b->b<wr.heap.size:=λb hb=>hlt _ Z1 b hb;have hb3:=Zv h.blk3
 have hgg:gg≠b3:=by
  obtain a8|a8:=a8
  ·grind
  ·omega
 have hgr:nv.ownBlock=some gg\/wr.heap.size<gg:=by
  obtain a8|a8:=a8
  ·grind
  ·omega
 have b21:=λb (hb:v21.ownBlock=some b)=>(o6.lt b hb).2;have b24:=λb (hb:v24.ownBlock=some b)=>(o7.lt b hb).2
 have new21:∀b,v21.ownBlock=some b->(w8.setCell ⟨b3,0,none⟩ (.slice (some ⟨gg,0,none⟩) (k+1) cap)).heap[b]?=w6.heap[b]? :=by
  intro b hb;have q1:=a6 b hb;have q2:=b21 b hb;rw[Z4Y _ _ _ _ Z3N,h8.block b Z0 (λe=>Z3L),Z4U _ _ _ Z0,h7.block b Z0 Z1]
 have new24:∀b,v24.ownBlock=some b->(w8.setCell ⟨b3,0,none⟩ (.slice (some ⟨gg,0,none⟩) (k+1) cap)).heap[b]?=w7.heap[b]? :=by
  intro b hb;have q1:=a7 b hb;have q2:=b24 b hb;rw[Z4Y _ _ _ _ Z3N,h8.block b Z0 (λe=>Z3L),Z4U _ _ _ Z0]
 refine⟨?_,h.b2_ge,h.b3_ge,?_,?_,?_,?_,?_,?_⟩
 ·have q1:Below w.heap.size wr w1:=⟨e2,e3,e4,Z0,λb hb=>by rw[e1,Z4U _ _ _ (by have:=h.below.size;omega)]⟩;have q2:=((h.below.trans q1).grown h6 (by have:=h.below.size;omega) Z1).grown h7 (by have:=h.below.size;omega) Z1;have q3:=(q2.alloc (by have:=h.below.size;omega) Y).grown h8 (by have:=h.below.size;omega) (λb hb=>(h.nodes.lt b hb).1);exact q3.setCell h.b3_ge _
 ·rw[old b2 (Zv h.blk2) n2 n32];exact h.blk2
 ·have q:w8.heap[b3]?=some (.cells #[nv,rv] 31 (0,0)):=by
   rw[h8.block b3 Z0 (λe=>n3 b3 e.symm rfl),Z4U _ _ _ Z0,h7.block b3 Z0 Z1,h6.block b3 Z0 Z1,e1,Z4U _ _ _ hb3];exact h.blk3
  simp only[World.setCell,Z5T,Z5b,q,Z4K];rfl
 ·exact ZB h.roots λb hb=>old b (nr b hb).2.2 (nr b hb).1 (nr b hb).2.1
 ·exact ZB o8 λb hb=>by
   cases hb
   grind [Below.heap_setCell]
 ·rw[Z5n,hk];exact NodesOwn.snoc (ZB o6 new21) (ZB o7 new24) (h.inner.keep λx hx b hb=>old b (nx x hx b hb).2.2 (nx x hx b hb).1 (nx x hx b hb).2.1)
 ·simp only[JJ,Z5F,Z4T,Z6a,Z5S];have hob:(Value.slice (some ⟨gg,0,none⟩) (k+1) cap).ownBlock=some gg:=rfl
  have key:∀(o:Option Nat),(∀b,o=some b->b<wr.heap.size)->∀b,o=some b->v21.ownBlock≠some b/\v24.ownBlock≠some b:=λo ho b hb=>by
   grind
  have kgg:v21.ownBlock≠some gg/\v24.ownBlock≠some gg:=by
   obtain a8|a8:=a8
   ·grind
   ·grind
  have hnew:∀(o:Option Nat),(∀b,o=some b->b<wr.heap.size)->(∀x∈xs.map Value.ownBlock,∀b,o=some b->x≠some b)->∀x∈xs.map Value.ownBlock++[v21.ownBlock,v24.ownBlock],∀b,o=some b->x≠some b:=by
   intro o ho hx x hm b hb;obtain hm|hm:=Z4R.1 hm
   ·grind
   ·have:=key o ho b hb;simp only[Z4H,Z5t,Z6u]at hm
    grind
  have hgo:∀(o:Option Nat),(∀b,o=some b->b<wr.heap.size)->(∀b,o=some b->nv.ownBlock≠some b)->∀b,o=some b->(some gg:Option Nat)≠some b:=by
   intro o ho hn b hb e;cases e;obtain q|q:=hgr
   ·grind
   ·grind
  rw[hob];refine⟨λx hx b hb=> ?_,λx hx b hb=> ?_,λx hx b hb=> ?_,λx hx b hb=> ?_,?_⟩
  ·simp only[Z4H]at hx;obtain rfl|rfl|rfl|hx:=hx
   ·grind
   ·grind
   ·exact hgo (some b2) (λb hb=>hlt _ Z1 b hb) (λb hb=>p2 _ Z1 b hb) b hb
   ·exact hnew (some b2) (λb hb=>hlt _ Z1 b hb) (λx hx=>p2 x Z4l) x hx b hb
  ·simp only[Z4H]at hx;obtain rfl|rfl|hx:=hx
   ·grind
   ·grind
   ·exact hnew (some b3) (λb hb=>hlt _ Z1 b hb) (λx hx=>p3 x Z4l) x hx b hb
  ·simp only[Z4H]at hx;obtain rfl|hx:=hx
   ·grind
   ·exact hnew rv.ownBlock (λb hb=>hlt _ Z1 b hb) (λx hx=>pr x Z4l) x hx b hb
  ·cases hb;obtain hx|hx:=Z4R.1 hx
   ·intro e;obtain q|q:=hgr
    ·grind
    ·have:gg<wr.heap.size:=hlt x Z4l gg e;omega
   ·simp only[Z4H,Z5t,Z6u]at hx
    grind
  ·rw[List.pairwise_append];refine⟨px,?_,λx hx y hy b hb=> ?_⟩
   ·simp only[Z5S,Z4H,Z5t,Z6u,List.Pairwise.nil,Z8I,false_implies,implies_true]
    grind
   ·have:=key x (λb hb=>hlt x Z4l b hb) b hb;simp only[Z4H,Z5t,Z6u]at hy
    grind
structure GOwn (B:Nat) (w:World) (g:Gr) (nv rv:Value) (xs:List Value):Prop where
 roots:w.ownsRow B 3 1 rv g.roots.length (nums .i64 g.roots)
 nodes:w.ownsRow B 63 2 nv g.nodes.length xs
 inner:NodesOwn w B g.nodes xs
 apart:JJ (rv.ownBlock::nv.ownBlock::xs.map Value.ownBlock)
def OwnSt.done{w wr w':World}{b2 b3 k:Nat}{g:Gr}{rv nv:Value}{xs:List Value}(h:OwnSt w wr b2 b3 g k rv nv xs)(hk:k=g.nodes.length)(hs:∀b,b≠b2->w'.heap[b]?=wr.heap[b]?):GOwn w.heap.size w' g nv rv xs:=by
 have hap:=h.apart;simp only[JJ,Z5S]at hap;obtain⟨p2,p3,pr,pn,px⟩:=hap;subst hk;have hne:∀o∈(some b3::rv.ownBlock::nv.ownBlock::xs.map Value.ownBlock),∀b,o=some b->b≠b2:=λo ho b hb e=>p2 o ho b2 rfl (by rw[hb,e]);refine⟨ZB h.roots λb hb=>hs b (hne _ Z1 b hb),ZB h.nodes λb hb=>hs b (hne _ Z1 b hb),?_,?_⟩
 ·have:=h.inner;rw[Z5D]at this;exact this.keep λx hx b hb=>hs b (hne x.ownBlock Z3L b hb)
 grind [JJ,List.pairwise_cons]
def elI:elOk Sol.prog 3=true:=Z2
def ceI:Sol.prog.cellsOf 3=1:=Z2
def Z23:(Sol.prog.info? 63).map (λi=>(i.zero,i.size,i.bytes))=some (some (.agg #[.slice none 0 0,.slice none 0 0]),2,48):=Z2
def Dy(w:World)(g:Gr)(e:Ending)(w':World):Prop:=∃nv rv xs,e=.returned (.agg #[nv,rv])/\Below w.heap.size w w'/\GOwn w.heap.size w' g nv rv xs
def Ib(w:World)(G:Nat->Prop)(hG:∀b,G b->b<w.heap.size)(g:Gr)(a0:Option Addr)(n c0:Nat)(rv0:Value)(hn:n=g.nodes.length)(hnb:n<=100000)(hrb:g.roots.length<=100000)
  (hsrc:0<n->∃bs os,a0=some ⟨bs,os,none⟩/\∀(k:Nat) (x:Nd),g.nodes[k]?=some x->(x.ptrs.length<=100000/\x.data.length<=100000)/\∃pa pc da dc,bs<w.heap.size/\w.cell? ⟨bs,os+k*2,none⟩=some (.slice pa x.ptrs.length pc)/\w.cell? ⟨bs,os+k*2+1,none⟩=some (.slice da x.data.length dc)/\
   Rd w G (.sl (x.ptrs.map vi)) (.slice pa x.ptrs.length pc)/\Rd w G (.sl (x.data.map vu)) (.slice da x.data.length dc))
  (hr0:Rd w G (.sl (g.roots.map vi)) rv0):
  Calls Sol.prog 58 #[.agg #[.slice a0 n c0,rv0]] w (Dy w g):=by
 obtain⟨i32,hi32,hz32,hs32,hb32⟩:=info_parts Z23;have HR:=Z4O hr0;have HN:=Z4O hn;have HSRC:=Z4O hsrc;have hsz:Ya (Sol.prog.cellsOf 3) (g.roots.map vi)=true:=by rw[ceI];exact TY _
 have HS:=Z4O hsz;clear hr0 hn hsz hsrc;go_enter Sol.func58,Try.ntmps58
 go_wp2_with (at_builtin;refine K0 (B:=w.heap.size) (n:=0) (xs:=[]) rfl _ _ _ rfl Sol.underlying23 elI rfl rfl (Z5R _ _ _ _) ?c1 (l:=g.roots.map vi) (Gy:=G) ?c2 HS.out ?c4 ?_)
 case c1=>simp;omega
 case c2=>exact HR.out.keep (λb hb=>by
  have:=hG b hb;rw[Z4U _ _ _ Z3N,Z4U _ _ _ this]) λ_ h=>h
 case c4=>simp[lim];omega
 intro rv w1 news hown hgrow hat hnews;simp only[ceI]at hown;have hnl:news.length=g.roots.length:=by have:=hown.1;simpa using this
 rw[J1 hnews hnl]at hown;obtain⟨ra,rc,hrv⟩:=Xo hown
 try simp only[Z56,Z5g]at hrv hown
 subst hrv;have HO:=Z4O hown;have HG:=Z4O hgrow
 have ha0:∀b,(Value.slice ra g.roots.length rc).ownBlock=some b->w.heap.size+2<=b:=by
  intro b hb;obtain h|⟨_,h⟩:=hat
  ·rw[h]at hb;cases hb
  ·have:=(h.lt b hb).1;omega
 have HA:=Z4O ha0;clear ha0;have hz:w.heap.size+1<w1.heap.size:=by have:=hgrow.size;simp at this;omega
 have e1:w1.cell? ⟨w.heap.size,0,none⟩=some (.slice a0 n c0):=by
  rw[hgrow.cell_far _ Z3N Z3X];rw[Z5K _ _ _ Z1];rw[Z5j (w:=(w.alloc (.cells #[.slice a0 n c0,rv0] 31))) Z4r];simp
 have e2:(w1.alloc (.cells #[.slice none 0 0,.slice ra g.roots.length rc] 31)).cell? ⟨w.heap.size,0,none⟩=some (.slice a0 n c0):=by
  rw[Z5K _ _ _ Z3N];exact e1
 clear hown hgrow hat hnews e1;go_wp2
 go_loopw [13] (λi wr=>∃k nv xs,i=.int .i64 (k:Nat)/\k<=n/\wr.cell? ⟨w1.heap.size,0,none⟩=some nv/\wr.frozen? ⟨w1.heap.size,0,none⟩=false/\Hid (OwnSt w wr (w.heap.size+1) w1.heap.size g k (.slice ra g.roots.length rc) nv xs))
  (λi _=>n- (intOf i).toNat)
 case atStart=>
  refine⟨0,.slice none 0 0,[],rfl,Z5H _,Z1,Na _ _ _ _,Z4O ?_⟩;have hg:=HG.out;have ho:=HO.out
  have hb1:w1.heap[w.heap.size+1]?=some (.cells #[.slice none 0 0,.slice none 0 0] 31 (0,0)):=by
   rw[hg.block _ Z1 Z3X];have:=Z5c (w.alloc (.cells #[.slice a0 n c0,rv0] 31)) (.cells #[.slice none 0 0,.slice none 0 0] 31);simpa using this
  refine⟨?_,Z0,Z0,?_,Z5c w1 _,ZB ho λb hb=>Z4U _ _ _ (ho.lt b hb).2,Z5R _ _ _ _,rfl,?_⟩
  ·exact((((Z5i _ _).alloc (Z4A _) _).alloc Z1 _).grown hg Z3N Z3X).alloc Z0 _
  ·rw[Z4U _ _ _ Z0];exact hb1
  ·have ha:∀b,(Value.slice ra g.roots.length rc).ownBlock=some b->w.heap.size+2<=b/\b<w1.heap.size:=λb hb=>⟨HA.out b hb,(ho.lt b hb).2⟩;generalize (Value.slice ra g.roots.length rc).ownBlock=o at ha;have hnone:(Value.slice none 0 0).ownBlock=none:=rfl;rw[hnone];simp only[JJ,Z6a,Z5S,Z4H,Z5t,Z6u,List.Pairwise.nil,Z8I,false_implies,implies_true];refine⟨λx hx b hb=> ?_,λx hx b hb=> ?_,λx hx b hb=> ?_⟩
   ·cases hb;obtain rfl|rfl|rfl:=hx
    ·simp;omega
    ·intro e;have:=ha _ e;omega
    ·simp
   ·cases hb;obtain rfl|rfl:=hx
    ·intro e;have:=ha _ e;omega
    ·simp
   ·subst hx;simp
 case round=>
  obtain⟨k,nv,xs,rfl,hk,hc3,hf3,HI⟩:=hrel;have hws:=HI.out.below.size;by_cases hlt:k<n
  ·have hkl:k<g.nodes.length:=by have:=HN.out;omega
   obtain⟨bs,os,ha0,hsr⟩:=HSRC.out Z0;subst ha0;have hgk:g.nodes[k]?=some g.nodes[k]:=Z4u hkl;obtain⟨⟨l1,l2⟩,pa,pc,da,dc,hbs,q1,q2,q3,q4⟩:=hsr k g.nodes[k] hgk;have HK:=Z4O hgk;have q1':wr.cell? ⟨bs,os+k*2,none⟩=some (.slice pa g.nodes[k].ptrs.length pc):=(HI.out.below.cell (by exact hbs)).trans q1;have q2':wr.cell? ⟨bs,os+k*2+1,none⟩=some (.slice da g.nodes[k].data.length dc):=(HI.out.below.cell (by exact hbs)).trans q2
   have hRd:∀w':World,(∀b,b<w.heap.size->w'.heap[b]?=w.heap[b]?)->Rd w' G (.sl (g.nodes[k].ptrs.map vi)) (.slice pa g.nodes[k].ptrs.length pc)/\Rd w' G (.sl (g.nodes[k].data.map vu)) (.slice da g.nodes[k].data.length dc):=
    λw' hw'=>⟨q3.keep (λb hb=>hw' b (hG b hb)) λ_ h=>h,q4.keep (λb hb=>hw' b (hG b hb)) λ_ h=>h⟩
   have HRd:=Z4O hRd;clear q1 q2 q3 q4 hRd hsr hgk;generalize g.nodes[k]=nd at*
   go_wp2_with fail
   obtain⟨na,nc,hnv⟩:∃a c,nv=.slice a k c:=Xo HI.out.nodes;subst hnv;have hb3:w1.heap.size<wr.heap.size:=Zv HI.out.blk3
   have hc3':(wr.alloc (.cells #[.slice pa nd.ptrs.length pc,.slice da nd.data.length dc] 63)).cell? ⟨w1.heap.size,0,none⟩=some (.slice na k nc):=by
    rw[Z5K _ _ _ (by simpa using hb3)];exact hc3
   have hf3':(wr.alloc (.cells #[.slice pa nd.ptrs.length pc,.slice da nd.data.length dc] 63)).frozen? ⟨w1.heap.size,0,none⟩=false:=by
    rw[World.frozen?_alloc_old _ _ _ Z3N];exact hf3
   have hc50:(wr.alloc (.cells #[.slice pa nd.ptrs.length pc,.slice da nd.data.length dc] 63)).cell? ⟨wr.heap.size,0,none⟩=some (.slice pa nd.ptrs.length pc):=Z1;have hc51:(wr.alloc (.cells #[.slice pa nd.ptrs.length pc,.slice da nd.data.length dc] 63)).cell? ⟨wr.heap.size,1,none⟩=some (.slice da nd.data.length dc):=Z1
   have hnw:∀b,(Value.slice na k nc).ownBlock=some b->b<wr.heap.size/\b≠w1.heap.size:=λb hb=>⟨(HI.out.nodes.lt b hb).2,λe=>by
    have:=HI.out.apart;simp only[JJ,Z5S]at this;exact this.2.1 (Value.slice na k nc).ownBlock Z1 w1.heap.size rfl (by rw[hb,e])⟩
   have ag3:some w1.heap.size≠(Value.slice na k nc).ownBlock:=λe=>(hnw _ e.symm).2 rfl;have ag5:some wr.heap.size≠(Value.slice na k nc).ownBlock:=λe=>by have:=(hnw _ e.symm).1;omega
   clear hnw;have HRa:=Z4O (HRd.out (wr.alloc (.cells #[.slice pa nd.ptrs.length pc,.slice da nd.data.length dc] 63)).drew (λb hb=>(Z4U wr _ b Z0).trans (HI.out.below.block b hb))).1
   go_region_law
    (first
     |(refine Rs (B:=w.heap.size) (n:=0) (xs:=[]) rfl _ _ 23 Z4r Sol.underlying23 elI Z4r Z4r (Z5R _ _ _ _) Z3N (l:=nd.ptrs.map vi) (Gy:=G)
        HRa.out (by rw[ceI];exact TY _) Z3Y ?_
       intro v21 w6 news6 hown6 hgrow hat6 hn6;simp only[ceI]at hown6;have hl6:news6.length=nd.ptrs.length:=by have:=hown6.1;simpa using this
       rw[J1 hn6 hl6]at hown6;obtain⟨a21,c21,hv21⟩:=Xo hown6
       try simp only[Z56,Z5g]at hv21 hown6
       subst hv21;have s1:w6.cell? ⟨w1.heap.size,0,none⟩=some (.slice na k nc):=(hgrow.cell_far ⟨w1.heap.size,0,none⟩ Z3N Z3X).trans hc3';have s2:w6.frozen? ⟨w1.heap.size,0,none⟩=false:=(hgrow.frozen_far ⟨w1.heap.size,0,none⟩ Z3N Z3X).trans hf3';have s3:w6.cell? ⟨wr.heap.size,0,none⟩=some (.slice pa nd.ptrs.length pc):=(hgrow.cell_far ⟨wr.heap.size,0,none⟩ Z1 Z3X).trans hc50;have s4:w6.cell? ⟨wr.heap.size,1,none⟩=some (.slice da nd.data.length dc):=(hgrow.cell_far ⟨wr.heap.size,1,none⟩ Z1 Z3X).trans hc51;have n6:w1.heap.size<w6.heap.size:=by have:=hgrow.size;simp at this;omega
       have hz6:wr.heap.size+1<=w6.heap.size:=by have:=hgrow.size;simp at this;omega
       have HO6:=Z4O hown6;have HG6:=Z4O hgrow
       have hb6:∀b,(Value.slice a21 nd.ptrs.length c21).ownBlock=some b->wr.heap.size<b:=by
        intro b hb;have:=Mf (B:=0) hat6 b hb;simp at this;omega
       have HB6:=Z4O hb6;clear hb6;clear hown6 hat6 hn6 hl6)
     |(refine Rs (B:=w.heap.size) (n:=0) (xs:=[]) rfl _ _ 35 Z4r Sol.underlying35 elU Z4r Z4r (Z5R _ _ _ _) Z0 (l:=nd.data.map vu) (Gy:=G)
        (HRd.out w6 (λb hb=>(HG6.out.block b (Z3N:b< (wr.alloc _).heap.size) Z3X).trans ((Z4U wr _ b Z0).trans (HI.out.below.block b hb)))).2 (by rw[ceU];exact TY _) Z3Y ?_
       intro v24 w7 news7 hown7 hgrow hat7 hn7;simp only[ceU]at hown7;have hl7:news7.length=nd.data.length:=by have:=hown7.1;simpa using this
       rw[J1 hn7 hl7]at hown7;obtain⟨a24,c24,hv24⟩:=Xo hown7
       try simp only[Z56,Z5g]at hv24 hown7
       subst hv24;have t1:w7.cell? ⟨w1.heap.size,0,none⟩=some (.slice na k nc):=(hgrow.cell_far ⟨w1.heap.size,0,none⟩ (by show w1.heap.size<_;omega) Z3X).trans s1;have t2:w7.frozen? ⟨w1.heap.size,0,none⟩=false:=(hgrow.frozen_far ⟨w1.heap.size,0,none⟩ (by show w1.heap.size<_;omega) Z3X).trans s2;have t3:w7.cell? ⟨wr.heap.size,0,none⟩=some (.slice pa nd.ptrs.length pc):=(hgrow.cell_far ⟨wr.heap.size,0,none⟩ (by show wr.heap.size<_;omega) Z3X).trans s3;have t4:w7.cell? ⟨wr.heap.size,1,none⟩=some (.slice da nd.data.length dc):=(hgrow.cell_far ⟨wr.heap.size,1,none⟩ (by show wr.heap.size<_;omega) Z3X).trans s4;have t5:∀o,(w7.alloc o).frozen? ⟨w1.heap.size,0,none⟩=false:=λo=>(World.frozen?_alloc_old _ _ _ (by have:=hgrow.size;simp;omega)).trans t2;have n7:w1.heap.size<w7.heap.size:=by have:=hgrow.size;omega
       have hz7:w6.heap.size<=w7.heap.size:=hgrow.size;have HO7:=Z4O hown7;have HG7:=Z4O hgrow;have HA7:=Z4O (Mf (B:=0) hat7);clear hown7 hat7 hn7 hl7)
     |(refine step_append_lies _ rfl _ _ 29 Z4r w.heap.size 63 i32 _ 2 48 Sol.underlying29 hi32 hz32 hs32 hb32 rfl Z0 (.slice na k nc) k xs Z4r
        (ZB HI.out.nodes (λb hb=>by
         have hbl:=(HI.out.nodes.lt b hb).2;rw[Z4U _ _ _ Z0,HG7.out.block b Z0 Z3X,HG6.out.block b Z3N Z3X];exact Z4U wr _ b hbl))
        ⟨w7.heap.size,0,none⟩ 1 1 [.slice a21 nd.ptrs.length c21,.slice a24 nd.data.length c24] Z4r Z4r (World.news_of_block (cs:=#[.slice a21 nd.ptrs.length c21,.slice a24 nd.data.length c24]) (t:=63) (fr:=(0,0)) (Z5c w7 _)) (by simp[Value.oneCell'])
        Z0 (by unfold maxLen;omega) Z0 Z3N (w7.heap.size+1) Z1 ?_
       intro gg cap w8 hown8 hgrow hat8 hlt8;have u1:w8.cell? ⟨w1.heap.size,0,none⟩=some (.slice na k nc):=(hgrow.cell_far ⟨w1.heap.size,0,none⟩ Z3N ag3).trans ((Z5K _ _ _ (by show w1.heap.size<_;omega)).trans t1);have u2:w8.frozen? ⟨w1.heap.size,0,none⟩=false:=(hgrow.frozen_far ⟨w1.heap.size,0,none⟩ Z3N ag3).trans (t5 _);have HO8:=Z4O hown8;have HG8:=Z4O hgrow;have HA8:=Z4O hat8;clear hown8 hat8))
   all_goals
    go_wp2
    go_roundw
    case rel=>
     have hnx:=OwnSt.next (w1:=(wr.alloc (.cells #[.slice pa nd.ptrs.length pc,.slice da nd.data.length dc] 63)).drew) HI.out HK.out ⟨rfl,rfl,rfl,rfl⟩ HG6.out HO6.out HB6.out HG7.out HO7.out HA7.out HG8.out HO8.out HA8.out;exact⟨k+1,_,_,by go_num,Z0,by rw[Z4Q _ _ _ _ _ _ hnx.blk3];rfl,ZX hnx.blk3,Z4O hnx⟩
    case measure=>simp[intOf];omega
  ·have hkn:k=n:=Z0;have h31:wr.cell? ⟨w1.heap.size,1,none⟩=some (.slice ra g.roots.length rc):=by rw[Z4Q _ _ _ _ _ _ HI.out.blk3];rfl
   have h20:wr.cell? ⟨w.heap.size+1,0,none⟩=some (.slice none 0 0):=by rw[Z4Q _ _ _ _ _ _ HI.out.blk2];rfl
   have h21:wr.cell? ⟨w.heap.size+1,1,none⟩=some (.slice none 0 0):=by rw[Z4Q _ _ _ _ _ _ HI.out.blk2];rfl
   have f20:wr.frozen? ⟨w.heap.size+1,0,none⟩=false:=ZX HI.out.blk2;have f21:wr.frozen? ⟨w.heap.size+1,1,none⟩=false:=ZX HI.out.blk2;have hgn:k=g.nodes.length:=by have:=HN.out;omega
   have HGN:=Z4O hgn;obtain⟨na,nc,hnv⟩:∃a c,nv=.slice a k c:=Xo HI.out.nodes;subst hnv;clear hkn hgn
   have hfin:∀u v:Value,(((wr.setCell ⟨w.heap.size+1,0,none⟩ u).setCell ⟨w.heap.size+1,1,none⟩ v).cell? ⟨w.heap.size+1,0,none⟩=some u/\((wr.setCell ⟨w.heap.size+1,0,none⟩ u).setCell ⟨w.heap.size+1,1,none⟩ v).cell? ⟨w.heap.size+1,1,none⟩=some v):=by
    intro u v
    have hb:((wr.setCell ⟨w.heap.size+1,0,none⟩ u).setCell ⟨w.heap.size+1,1,none⟩ v).heap[w.heap.size+1]?=some (.cells #[u,v] 31 (0,0)):=by
     simp[World.setCell,Z5T,HI.out.blk2]
    constructor
    ·rw[Z4Q _ _ _ _ _ _ hb];rfl
    ·rw[Z4Q _ _ _ _ _ _ hb];rfl
   go_wp2;have hfA:=(hfin (.slice na k nc) (.slice ra g.roots.length rc)).1;have hfB:=(hfin (.slice na k nc) (.slice ra g.roots.length rc)).2;refine Z5X (v:=.agg #[.slice na k nc,.slice ra g.roots.length rc]) (by simp[results,Try.results58,go_sem,hfA,hfB]) rfl ⟨_,_,xs,rfl,?_,?_⟩
   ·exact(HI.out.below.setCell Z1 _).setCell Z1 _
   ·exact HI.out.done HGN.out λb hb=>by
     rw[Z4Y _ _ _ _ (by simpa using hb),Z4Y _ _ _ _ (by simpa using hb)]
def UH(n:Nat)(x:Int):Bool:=decide (0<=x)&&decide (x< (n:Int))
def qu(w:World)(b:Nat)(x:Int)(a:Option Addr)(n cap:Nat)(hcap:(n:Int)<=9223372036854775807)
  (h1:w.cell? ⟨b,1,none⟩=some (.slice a n cap)):
  Calls Sol.prog 83 #[.pointer (some ⟨b,0,none⟩),.int .i64 x] w λe w'=>e=.returned (.bool (UH n x))/\w'=w:=by
 go_enter Sol.func83,Try.ntmps83;by_cases q1:0<=x
 ·by_cases q2:x< (n:Int)
  all_goals
   go_wp2
   go_ret
   exact⟨by simp[UH,q1,q2],rfl⟩
 ·go_wp2
  go_ret
  exact⟨by simp[UH];omega,rfl⟩
def WG(n:Nat)(k r s:Int):Bool:=
 if k=1\/k=7 then UH n r else if k=3\/k=5 then UH n s else if k=2\/k=4\/k=6 then UH n r&&UH n s else false
def CG(w:World)(b:Nat)(k r s:Int)(a:Option Addr)(n cap:Nat)(hcap:(n:Int)<=9223372036854775807)
  (h1:w.cell? ⟨b,1,none⟩=some (.slice a n cap)) (h2:w.cell? ⟨b,2,none⟩=some (.int .i64 k))
  (h3:w.cell? ⟨b,3,none⟩=some (.int .i64 r)) (h4:w.cell? ⟨b,4,none⟩=some (.int .i64 s)):
  Calls Sol.prog 59 #[.pointer (some ⟨b,0,none⟩)] w λe w'=>e=.returned (.bool (WG n k r s))/\w'=w:=by
 have HA:=Z4O (qu w b r a n cap hcap h1);have HB:=Z4O (qu w b s a n cap hcap h1);go_enter Sol.func59,Try.ntmps59;by_cases k2:k=2
 ·subst k2
  go_wp2_with fail
  refine HB.out.mono ?_;rintro e w' ⟨rfl,rfl⟩;cases hs:UH n s
  ·go_wp2
   go_ret
   exact⟨by simp[WG,hs],rfl⟩
  ·go_wp2_with fail
   refine HA.out.mono ?_;rintro e w' ⟨rfl,rfl⟩;go_wp2
   go_ret
   exact⟨by simp[WG,hs],rfl⟩
 by_cases k4:k=4
 ·subst k4
  go_wp2_with fail
  refine HB.out.mono ?_;rintro e w' ⟨rfl,rfl⟩;cases hs:UH n s
  ·go_wp2
   go_ret
   exact⟨by simp[WG,hs],rfl⟩
  ·go_wp2_with fail
   refine HA.out.mono ?_;rintro e w' ⟨rfl,rfl⟩;go_wp2
   go_ret
   exact⟨by simp[WG,hs],rfl⟩
 by_cases k6:k=6
 ·subst k6
  go_wp2_with fail
  refine HB.out.mono ?_;rintro e w' ⟨rfl,rfl⟩;cases hs:UH n s
  ·go_wp2
   go_ret
   exact⟨by simp[WG,hs],rfl⟩
  ·go_wp2_with fail
   refine HA.out.mono ?_;rintro e w' ⟨rfl,rfl⟩;go_wp2
   go_ret
   exact⟨by simp[WG,hs],rfl⟩
 by_cases k1:k=1
 ·subst k1
  go_wp2_with fail
  refine HA.out.mono ?_;rintro e w' ⟨rfl,rfl⟩;go_wp2
  go_ret
  exact⟨by simp[WG],rfl⟩
 by_cases k7:k=7
 ·subst k7
  go_wp2_with fail
  refine HA.out.mono ?_;rintro e w' ⟨rfl,rfl⟩;go_wp2
  go_ret
  exact⟨by simp[WG],rfl⟩
 by_cases k3:k=3
 ·subst k3
  go_wp2_with fail
  refine HB.out.mono ?_;rintro e w' ⟨rfl,rfl⟩;go_wp2
  go_ret
  exact⟨by simp[WG],rfl⟩
 by_cases k5:k=5
 ·subst k5
  go_wp2_with fail
  refine HB.out.mono ?_;rintro e w' ⟨rfl,rfl⟩;go_wp2
  go_ret
  exact⟨by simp[WG],rfl⟩
 go_wp2
 go_ret
 exact⟨by simp[WG,k1,k2,k3,k4,k5,k6,k7],rfl⟩
def DY(w:World)(b:Nat)(k:Int)(h2:w.cell? ⟨b,2,none⟩=some (.int .i64 k)):
  Calls Sol.prog 60 #[.pointer (some ⟨b,0,none⟩)] w λe w'=>e=.returned (.func (.func
   (if k=1 then 84 else if k=2 then 85 else if k=3 then 86 else if k=4 then 87 else if k=5 then 88 else if k=6 then 89 else 90))
   #[.pointer (some ⟨b,0,none⟩)] #[])/\w'=w:=by
 go_enter Sol.func60,Try.ntmps60;by_cases k1:k=1
 ·subst k1;go_wp2
  go_ret
  simp
 by_cases k2:k=2
 ·subst k2;go_wp2
  go_ret
  simp
 by_cases k3:k=3
 ·subst k3;go_wp2
  go_ret
  simp
 by_cases k4:k=4
 ·subst k4;go_wp2
  go_ret
  simp
 by_cases k5:k=5
 ·subst k5;go_wp2
  go_ret
  simp
 by_cases k6:k=6
 ·subst k6;go_wp2
  go_ret
  simp
 go_wp2
 go_ret
 simp
structure GHas (B:Nat) (w:World) (g:Gr) (nv rv:Value) (xs:List Value):Prop where
 roots:w.ownsRow B 3 1 rv g.roots.length (nums .i64 g.roots)
 nodes:w.ownsRow B 63 2 nv g.nodes.length xs
 inner:NodesOwn w B g.nodes xs
structure Wk (B:Nat) (w:World) (b:Nat) (g:Gr) (a:Ac) (nv rv:Value) (xs:List Value):Prop where
 ge:B<=b
 blk:w.heap[b]?=some (.cells #[nv,rv,.int .i64 a.kind,.int .i64 a.r,.int .i64 a.s,.int .i64 a.i,.int .i64 a.size,.int .i64 a.ptrs,.int .u64 a.v] 111 (0,0))
 own:GOwn B w g nv rv xs
 apart:∀o∈rv.ownBlock::nv.ownBlock::xs.map Value.ownBlock,o≠some b
def Wk.rn{B:Nat}{w:World}{b br n rc:Nat}{g:Gr}{a:Ac}{nv:Value}{xs:List Value}(h:Wk B w b g a nv (.slice (some ⟨br,0,none⟩) n rc) xs):nv.ownBlock≠some br:=by
 have:=h.own.apart;simp only[JJ,Z5S]at this;exact this.1 nv.ownBlock Z1 br rfl
def Wk.rx{B:Nat}{w:World}{b br n rc:Nat}{g:Gr}{a:Ac}{nv:Value}{xs:List Value}(h:Wk B w b g a nv (.slice (some ⟨br,0,none⟩) n rc) xs):∀x∈xs,x.ownBlock≠some br:=by
 have:=h.own.apart;simp only[JJ,Z5S]at this;exactλx hx=>this.1 x.ownBlock Z3L br rfl
section
theorem NodesOwn.at{w:World}{B:Nat}:∀ {ns:List Nd} {xs:List Value},NodesOwn w B ns xs->xs.length=ns.length*2/\∀(i:Nat) (n:Nd),ns[i]?=some n->∃pv dv,xs[i*2]?=some pv/\xs[i*2+1]?=some dv/\
  w.ownsRow B 3 1 pv n.ptrs.length (nums .i64 n.ptrs)/\w.ownsRow B 24 1 dv n.data.length (nums .u64 n.data)
 | [],xs,h=>by cases(show xs=[]from h);simp
 |m::ns,xs,h=>by
  obtain⟨pv,dv,r,rfl,h1,h2,h3⟩:=h;obtain⟨h4,h5⟩:=h3.at;refine⟨Z3L,λi n hi=> ?_⟩
  match i,hi with
  |0,hi=>
   simp_all
  |i+1,hi=>
   grind
variable {w w':World}{B b br rc:Nat}{g:Gr}{a:Ac}{nv rv:Value}{xs:List Value}
def Dr.below{w w':World}(h:Dr w w')(B:Nat):Below B w w':=⟨h.os,h.tape,h.output,by rw[h.heap];omega,λ_ _=>by rw[h.heap]⟩
def Wrote.block{p:Addr}{x:Value}(h:Wrote w p x w')(c:Nat)(hc:c≠p.block):w'.heap[c]?=w.heap[c]? :=by
 obtain⟨w2,hd,rfl⟩:=h;rw[Z4Y _ _ _ _ hc,hd.heap]
def Wrote.below{p:Addr}{x:Value}(h:Wrote w p x w')(hp:B<=p.block):Below B w w':=by
 obtain⟨w2,hd,rfl⟩:=h;exact(hd.below B).setCell hp _
def Z0c{e:TypeId}{z n:Nat}{v:Value}{xs:List Value}(h:w.ownsRow B e z v n xs)(hd:Dr w w'):w'.ownsRow B e z v n xs:=ZB h λ_ _=>by rw[hd.heap]
def Wrote.stored{c n cap j:Nat}{e:TypeId}{z:Nat}{x:Value}{xs:List Value}(h:Wrote w ⟨c,j,none⟩ x w')(ho:w.ownsRow B e z (.slice (some ⟨c,0,none⟩) n cap) n xs):
  w'.ownsRow B e z (.slice (some ⟨c,0,none⟩) n cap) n (xs.set j x):=by
 obtain⟨w2,hd,rfl⟩:=h;exact((Z0c ho hd).stored j x).1
def CW{r x:Int}(h:Wk B w b g a nv (.slice (some ⟨br,0,none⟩) g.roots.length rc) xs)(hw:Wrote w ⟨br,r.toNat,none⟩ (.int .i64 x) w'):
  GHas B w' (YP g r x) nv (.slice (some ⟨br,0,none⟩) g.roots.length rc) xs/\Below B w w'/\w'.heap[b]?=w.heap[b]? :=by
 have hbr:=h.own.roots.lt br rfl;refine⟨⟨?_,?_,?_⟩,hw.below hbr.1,hw.block b λe=>h.apart (some br) Z3X (by rw[e])⟩
 ·have:=hw.stored h.own.roots;simp_all[I3,YP]
 ·exact ZB h.own.nodes λc hc=>hw.block c λe=>h.rn (by rw[hc,e])
 ·exact h.own.inner.keep λy hy c hc=>hw.block c λe=>h.rx y hy (by rw[hc,e])
end
section
variable {w w':World}{B b br rc:Nat}{g:Gr}{a:Ac}{nv rv:Value}{xs:List Value}
def Wk.root(h:Wk B w b g a nv (.slice (some ⟨br,0,none⟩) g.roots.length rc) xs){r:Int}(hr:isRt g r=true):
  0<=r/\r< (g.roots.length:Int)/\w.cell? ⟨br,r.toNat,none⟩=some (.int .i64 (rt g r))/\w.frozen? ⟨br,r.toNat,none⟩=false:=by
 obtain⟨h1,h2⟩:=LD.1 hr;have hl:r.toNat<g.roots.length:=Z0;refine⟨h1,h2,?_,h.own.roots.frozenAt _⟩;rw[h.own.roots.cellAt _ Z0];simp[nums,rt,hl]
def DW(k:Int):FuncId:=if k=1 then 84 else if k=2 then 85 else if k=3 then 86 else if k=4 then 87 else if k=5 then 88 else if k=6 then 89 else 90
def L7(B:Nat)(w:World)(b:Nat)(g:Gr)(a:Ac)(e:Ending)(w':World):Prop:=
 e=.returned (.tuple #[.int .u64 (doR g a).1,.int .i64 (doR g a).2.2])/\Below B w w'/\((doR g a).2.2=0->∃nv' rv' xs',w'.cell? ⟨b,0,none⟩=some nv'/\w'.cell? ⟨b,1,none⟩=some rv'/\GHas B w' (doR g a).2.1 nv' rv' xs')
def MX{v:Int}{g':Gr}(hW:Wk B w b g a nv rv xs)(h:doR g a=(v,g',0))(hh:GHas B w' g' nv rv xs)(hb:Below B w w')(hk:w'.heap[b]?=w.heap[b]?):L7 B w b g a (.returned (.tuple #[.int .u64 v,.int .i64 0])) w':=by
 refine⟨by rw[h],hb,λ_=>⟨nv,rv,xs,?_,?_,Z3M⟩⟩
 ·rw[Z4Q _ _ _ _ _ _ (hk.trans hW.blk)];rfl
 ·rw[Z4Q _ _ _ _ _ _ (hk.trans hW.blk)];rfl
def DX(hW:Wk B w b g a nv rv xs)(hB:B<=w.heap.size)(hg:g.sm)(hr:right g=true)(hn:J0 g a=true)(hk:a.kind=7):Calls Sol.prog 90 #[.pointer (some ⟨b,0,none⟩)] w (L7 B w b g a):=by
 obtain⟨hg1,hg2,hg3⟩:=hg;have hrr:isRt g a.r=true:=by unfold J0 at hn;rw[hk]at hn;simp at hn;simp[hn]
 obtain⟨s1,s2⟩:=LD.1 hrr;obtain⟨br,rc,hrv,_,_⟩:=hW.own.roots.form Z0;subst hrv;obtain⟨r1,r2,hrc,hrf⟩:=hW.root hrr;have c1:w.cell? ⟨b,1,none⟩=some (.slice (some ⟨br,0,none⟩) g.roots.length rc):=Z47;have c3:w.cell? ⟨b,3,none⟩=some (.int .i64 a.r):=Z47;refine(E1 w b a.r br g.roots.length rc _ r1 r2 Z0 c1 c3 hrc hrf).mono ?_;rintro e w' ⟨rfl,hd⟩;obtain⟨h1,h2,h3⟩:=CW hW hd;exact MX hW (by simp_all[doR]) h1 h2 h3
end
section
variable {w:World}{B:Nat}{G:Nat->Prop}
def GHas.rd{g:Gr}{nv rv:Value}{xs:List Value}(h:GHas B w g nv rv xs)(hG:∀c,B<=c->c<w.heap.size->G c):Rd w G (grV g) (.agg #[nv,rv]):=by
 have h1:Rd w G (.sl (g.roots.map vi)) rv:=FB h.roots hG
 have h2:Rd w G (.sl (g.nodes.map ndV)) nv:=by
  obtain⟨hl,ha⟩:=h.inner.at;obtain⟨rfl,h0⟩|⟨gb,cap,cur,rfl,hb,hg,hnc,hcm,_⟩:=h.nodes.2
  ·have:g.nodes=[]:=Z5V.1 h0;rw[this];exact .nil _ _ (by unfold maxLen;omega)
  ·have hfit:∀x∈g.nodes.map ndV,x.fits 2:=λx hx=>by
    obtain⟨n,_,rfl⟩:=Z4I.1 hx;exact⟨rfl,λc hc=>by simp at hc;obtain rfl|rfl:=hc<;>rfl⟩
   have:=Rd.sl (w:=w) (G:=G) (g.nodes.map ndV) gb 0 cap 2 (λi=>xs.getD i undef) (by simpa using hnc) hcm (hG gb hb (Zv hg)) hfit (λi hi=>by
     have hi':i<g.nodes.length*2:=by simpa using hi
     have hx:i<xs.length:=Z0;rw[Z5g,h.nodes.cellAt i Z0];simp[hx]) (λi c hc=>by
     have hi:i<g.nodes.length*2:=by
      have:=(Z4v.1 hc).1;rw[Yb hfit]at this;simpa using this
     have hq:i / 2<g.nodes.length:=Z0;obtain⟨pv,dv,q1,q2,q3,q4⟩:=ha (i / 2) _ (Z4u hq);have hfa:=YJ hfit (i:=i / 2) (x:=ndV g.nodes[i / 2]) (by simp[hq]) (i%2) Z0;rw[show i / 2*2+i%2=i by omega,hc]at hfa;obtain hm|hm:=Nat.mod_two_eq_zero_or_one i
     ·rw[hm]at hfa;cases hfa;rw[show i / 2*2=i by omega]at q1;simp only[Z71,q1,Z4W];exact FB q3 hG
     ·rw[hm]at hfa;cases hfa;rw[show i / 2*2+1=i by omega]at q2;simp only[Z71,q2,Z4W];exact FB q4 hG)
   simpa using this
 refine .agg _ _ rfl (λc hc=>by simp at hc;obtain rfl|rfl:=hc<;>rfl) λi c hc=> ?_
 match i,hc with
 |0,hc=>cases hc;exact h2
 |1,hc=>cases hc;exact h1
def Rd.slf{l:List V}{v:Value}(h:Rd w G (.sl l) v):∃a c,v=.slice a l.length c:=by
 cases h with
 |nil a cap _=>simp
 |sl l b o cap k vs=>simp
def Rd.src{g:Gr}{v:Value}(h:Rd w G (grV g) v)(hG:∀b,G b->b<w.heap.size)(hg:g.sm):∃a0 c0 rv0,v=.agg #[.slice a0 g.nodes.length c0,rv0]/\Rd w G (.sl (g.roots.map vi)) rv0/\
  (0<g.nodes.length->∃bs os,a0=some ⟨bs,os,none⟩/\∀(k:Nat) (x:Nd),g.nodes[k]?=some x->(x.ptrs.length<=100000/\x.data.length<=100000)/\∃pa pc da dc,bs<w.heap.size/\w.cell? ⟨bs,os+k*2,none⟩=some (.slice pa x.ptrs.length pc)/\w.cell? ⟨bs,os+k*2+1,none⟩=some (.slice da x.data.length dc)/\
   Rd w G (.sl (x.ptrs.map vi)) (.slice pa x.ptrs.length pc)/\Rd w G (.sl (x.data.map vu)) (.slice da x.data.length dc)):=by
 cases h with
 |agg cs vs hs _ hr=>
  have r0:=hr 0 _ rfl;have r1:=hr 1 _ rfl;obtain⟨⟨l⟩⟩:=vs
  ·simp at hs
  rename_i v0 l;cases l with
  |nil=>simp at hs
  |cons v1 l=>
   cases l with
   |cons _ _=>simp at hs
   |nil=>
    simp at r0 r1;obtain⟨a0,c0,rfl⟩:=Rd.slf r0;simp only[Z56];refine⟨a0,c0,v1,rfl,r1,λhpos=> ?_⟩;generalize hL:g.nodes.map ndV=L at r0;generalize hv:Value.slice a0 L.length c0=v at r0;cases r0 with
    |nil a cap _=>simp_all
    |sl l b o cap k vs h1 h2 h3 h4 h5 h6=>
     cases hv;subst hL
     have hk:k=2:=by
      have hm:ndV g.nodes[0]∈g.nodes.map ndV:=Z4I.2 ⟨_,Z4J hpos,rfl⟩;have:=(h4 _ hm).1;simpa using this.symm
     subst hk;refine⟨b,o,rfl,λj x hx=> ?_⟩;have hj:j<g.nodes.length:=(Z4v.1 hx).1;have hf:∀i,i<2->(Vm.flat (g.nodes.map ndV))[j*2+i]?=(ndV x).cells[i]? :=λi hi=>YJ h4 (by simp[hx]) i hi;have f0:=h6 (j*2) _ (hf 0 Z0);have f1:=h6 (j*2+1) _ (hf 1 Z0);obtain⟨pa,pc,e0⟩:=Rd.slf f0;obtain⟨da,dc,e1⟩:=Rd.slf f1;have c0:=h5 (j*2) Z3N;have c1:=h5 (j*2+1) Z3N;rw[e0]at f0 c0;rw[e1]at f1 c1;simp only[Z56]at f0 f1 c0 c1;exact⟨hg.2.2 x (Z4B hx),pa,pc,da,dc,hG b h3,c0,Z0,f0,f1⟩
def Rd.actf{a:Ac}{v:Value}(h:Rd w G (acV a) v):v=.agg #[.int .i64 a.kind,.int .i64 a.r,.int .i64 a.s,.int .i64 a.i,.int .i64 a.size,.int .i64 a.ptrs,.int .u64 a.v]:=by
 cases h with
 |agg cs vs hs _ hr=>
  have h0:=(hr 0 _ rfl).int_eq;have h1:=(hr 1 _ rfl).int_eq;have h2:=(hr 2 _ rfl).int_eq;have h3:=(hr 3 _ rfl).int_eq;have h4:=(hr 4 _ rfl).int_eq;have h5:=(hr 5 _ rfl).int_eq;have h6:=(hr 6 _ rfl).int_eq;congr 1;apply Z7Y
  ·omega
  ·intro i hi1 hi2;have hi:i<7:=by simpa using hi2
   match i,hi with
   |0,_|1,_|2,_|3,_|4,_|5,_|6,_=>simp_all
def IE{g:Gr}{a:Ac}(h:(ID g a).2.2≠0):∃c,c≠0/\ID g a=(0,noGr,c):=by
 unfold ID at*
 grind
def MY{g:Gr}{a:Ac}(h:(doR g a).2.2≠0):∃c,c≠0/\doR g a=(0,noGr,c):=by
 unfold doR at*;split at h
 ·rename_i q;rw[if_pos q];split at h
  ·grind
  ·rename_i q;rw[if_neg q];split at h
   ·simp_all
   ·rename_i q;rw[if_neg q];split at h
    ·simp_all
    simp_all[if_neg,IE]
 ·rename_i q;rw[if_neg q];exact⟨1,Z0,rfl⟩
end
def Wk.made{w2:World}{B:Nat}{g:Gr}{a:Ac}{nv rv:Value}{xs:List Value}(hB:B<=w2.heap.size)(ho:GOwn B w2 g nv rv xs):
  Wk B (w2.alloc (.cells #[nv,rv,.int .i64 a.kind,.int .i64 a.r,.int .i64 a.s,.int .i64 a.i,.int .i64 a.size,.int .i64 a.ptrs,.int .u64 a.v] 111)) w2.heap.size g a nv rv xs:=by
 have hlt:∀o∈rv.ownBlock::nv.ownBlock::xs.map Value.ownBlock,∀c,o=some c->c<w2.heap.size:=by
  intro o h c hc;subst hc;simp only[Z4H,Z4I]at h;obtain h|h|⟨x,hx,h⟩:=h
  ·exact(ho.roots.lt c h.symm).2
  ·exact(ho.nodes.lt c h.symm).2
  ·exact(ho.inner.lt x hx c h).2
 have hk:∀c,c<w2.heap.size->(w2.alloc (.cells #[nv,rv,.int .i64 a.kind,.int .i64 a.r,.int .i64 a.s,.int .i64 a.i,.int .i64 a.size,.int .i64 a.ptrs,.int .u64 a.v] 111)).heap[c]?=w2.heap[c]? :=λc hc=>Z4U _ _ _ hc;refine⟨hB,Z5c w2 _,⟨ZB ho.roots λc hc=>hk c (ho.roots.lt c hc).2,ZB ho.nodes λc hc=>hk c (ho.nodes.lt c hc).2,ho.inner.keep λx hx c hc=>hk c (ho.inner.lt x hx c hc).2,ho.apart⟩,?_⟩
 grind
theorem NE{c:Int}(w:World)(G:Nat->Prop):Rd w G (doV (0,noGr,c)) (.tuple #[.int .u64 0,.agg #[.slice none 0 0,.slice none 0 0],.int .i64 c]):=by
 refine .tup _ _ rfl λi x hx=> ?_
 match i,hx with
 |0,hx=>cases hx;exact .int _ _
 |1,hx=>
  cases hx;refine .agg _ _ rfl (λc hc=>by simp[noGr]at hc;obtain rfl|rfl:=hc<;>rfl) λi x hx=> ?_
  match i,hx with
  |0,hx=>cases hx;exact .nil _ _ Z0
  |1,hx=>cases hx;exact .nil _ _ Z0
 |2,hx=>cases hx;exact .int _ _
def AO(w:World)(b:Nat){T:TypeId}{x y:Value}(u v:Value)(h:w.heap[b]?=some (.cells #[x,y] T (0,0))):
  ((w.setCell ⟨b,0,none⟩ u).setCell ⟨b,1,none⟩ v).cell? ⟨b,0,none⟩=some u/\((w.setCell ⟨b,0,none⟩ u).setCell ⟨b,1,none⟩ v).cell? ⟨b,1,none⟩=some v:=by
 have hb:((w.setCell ⟨b,0,none⟩ u).setCell ⟨b,1,none⟩ v).heap[b]?=some (.cells #[u,v] T (0,0)):=by
  simp[World.setCell,Z5T,h]
 constructor
 ·rw[Z4Q _ _ _ _ _ _ hb];rfl
 ·rw[Z4Q _ _ _ _ _ _ hb];rfl
def Pa{w:World}{B C b:Nat}{v:Int}{g:Gr}{nv rv:Value}{xs:List Value}(h:GHas B w g nv rv xs){x y:Value}(hb:b<B)(hC:C<=B):
  Rd ((w.setCell ⟨b,0,none⟩ x).setCell ⟨b,1,none⟩ y) (λc=>C<=c/\c< ((w.setCell ⟨b,0,none⟩ x).setCell ⟨b,1,none⟩ y).heap.size) (doV (v,g,0)) (.tuple #[.int .u64 v,.agg #[nv,rv],.int .i64 0]):=by
 have hk:∀c,B<=c->((w.setCell ⟨b,0,none⟩ x).setCell ⟨b,1,none⟩ y).heap[c]?=w.heap[c]? :=λc hc=>by
  grind [Below.heap_setCell]
 have h':GHas B ((w.setCell ⟨b,0,none⟩ x).setCell ⟨b,1,none⟩ y) g nv rv xs:=
  ⟨ZB h.roots λc hc=>hk c (h.roots.lt c hc).1,ZB h.nodes λc hc=>hk c (h.nodes.lt c hc).1,h.inner.keep λz hz c hc=>hk c (h.inner.lt z hz c hc).1⟩
 refine .tup _ _ rfl λi z hz=> ?_
 match i,hz with
 |0,hz=>cases hz;exact .int _ _
 |1,hz=>cases hz;exact h'.rd λc h1 h2=>⟨Z0,h2⟩
 |2,hz=>cases hz;exact .int _ _
def qw{P:Program}{f:FuncId}(hcb:Yd P f=true)(args:Array Value)(W:World):(callFunc f args).run P W=.ok (.enter f args) W:=by
 unfold Yd at hcb;split at hcb
 ·rename_i fn hfn;simp only[Z4x,Z5m,Z7b,ne_eq]at hcb;obtain⟨h1,h2⟩:=hcb;obtain⟨code,h3⟩:=Z5y.1 h2;simp[callFunc,hfn,h1,h3]
 grind
def JN(k:Int):Yd Sol.prog (DW k)=true:=by
 unfold DW
 repeat' split
 all_goals kernel_rfl
def OK(w:World)(g:Gr)(a:Ac)(e:Ending)(w':World):Prop:=∃v,e=.returned v/\Below w.heap.size w w'/\Rd w' (λb=>w.heap.size<=b/\b<w'.heap.size) (doV (doR g a)) v
def IW(g:Gr)(a:Ac):Prop:=∀ {B:Nat} {w:World} {b:Nat} {nv rv:Value} {xs:List Value},Wk B w b g a nv rv xs->B<=w.heap.size->right g=true->J0 g a=true->Calls Sol.prog (DW a.kind) #[.pointer (some ⟨b,0,none⟩)] w (L7 B w b g a)
def N0(w:World)(g:Gr)(a:Ac)(a0:Option Addr)(c0:Nat)(rv0:Value)(hg:g.sm)(HDC:Hid (IW g a))
  (HR:Hid (∀W:World,(∀b,b<w.heap.size->W.heap[b]?=w.heap[b]?)->w.heap.size<=W.heap.size->Calls Sol.prog 19 #[.agg #[.slice a0 g.nodes.length c0,rv0]] W λe W'=>e=.returned (.bool (right g))/\Below W.heap.size W W'))
  (HO:Hid (∀W:World,(∀b,b<w.heap.size->W.heap[b]?=w.heap[b]?)->w.heap.size<=W.heap.size->Calls Sol.prog 58 #[.agg #[.slice a0 g.nodes.length c0,rv0]] W (Dy W g))):
  Calls Sol.prog 26 #[.agg #[.slice a0 g.nodes.length c0,rv0],.agg #[.int .i64 a.kind,.int .i64 a.r,.int .i64 a.s,.int .i64 a.i,.int .i64 a.size,.int .i64 a.ptrs,.int .u64 a.v]] w (OK w g a):=by
 obtain⟨hg1,hg2,hg3⟩:=id hg;go_enter Sol.func26,Try.ntmps26
 go_wp2_with fail
 refine(HR.out _ ?_ ?_).mono ?_
 ·grind [Below.heap_alloc]
 ·simp;omega
 rintro e w1 ⟨rfl,hb1⟩
 have k2:w1.heap[w.heap.size]?=some (.cells #[.slice a0 g.nodes.length c0,rv0] 31 (0,0)):=by
  rw[hb1.block _ Z3N,Z4U _ _ _ Z3N,Z4U _ _ _ Z1];exact Z5c w _
 have k3:w1.heap[w.heap.size+1]?=some (.cells #[.int .i64 a.kind,.int .i64 a.r,.int .i64 a.s,.int .i64 a.i,.int .i64 a.size,.int .i64 a.ptrs,.int .u64 a.v] 54 (0,0)):=by
  rw[hb1.block _ Z1,Z4U _ _ _ Z1];simpa using Z5c (w.alloc (.cells #[.slice a0 g.nodes.length c0,rv0] 31)) _
 have k5:w1.heap[w.heap.size+2]?=some (.cells #[.slice none 0 0,.slice none 0 0] 31 (0,0)):=by
  rw[hb1.block _ Z1];simpa using Z5c ((w.alloc (.cells #[.slice a0 g.nodes.length c0,rv0] 31)).alloc (.cells #[.int .i64 a.kind,.int .i64 a.r,.int .i64 a.s,.int .i64 a.i,.int .i64 a.size,.int .i64 a.ptrs,.int .u64 a.v] 54)) _
 have z1:w.heap.size+2<w1.heap.size:=Zv k5;have hB1:Below w.heap.size w w1:=((((Z5i _ w).alloc (Z4A _) _).alloc Z1 _).alloc Z3N _).trans (hb1.mono Z3N);have HB1:=Z4O hB1;have HK5:=Z4O k5;have d20:w1.cell? ⟨w.heap.size,0,none⟩=some (.slice a0 g.nodes.length c0):=by rw[Z4Q _ _ _ _ _ _ k2];rfl
 have d21:w1.cell? ⟨w.heap.size,1,none⟩=some rv0:=by rw[Z4Q _ _ _ _ _ _ k2];rfl
 clear hb1 k2 hB1;cases hr:right g
 ·have e50:w1.cell? ⟨w.heap.size+2,0,none⟩=some (.slice none 0 0):=by rw[Z4Q _ _ _ _ _ _ k5];rfl
  have e51:w1.cell? ⟨w.heap.size+2,1,none⟩=some (.slice none 0 0):=by rw[Z4Q _ _ _ _ _ _ k5];rfl
  have ef0:w1.frozen? ⟨w.heap.size+2,0,none⟩=false:=ZX k5;have ef1:w1.frozen? ⟨w.heap.size+2,1,none⟩=false:=ZX k5;clear k3 k5;go_wp2;have hfA:=AO w1 (w.heap.size+2) (.slice none 0 0) (.slice none 0 0) HK5.out;refine Z5X (v:=.tuple #[.int .u64 0,.agg #[.slice none 0 0,.slice none 0 0],.int .i64 1]) Z4j rfl ⟨_,rfl,(HB1.out.setCell Z3N _).setCell Z3N _,?_⟩
  grind [doR,noGr,NE]
 ·have HO1:=Z4O (λ(W:World) (hW:Dr w1 W)=>HO.out W (λb hb=>by rw[hW.heap,HB1.out.block b hb]) (by rw[hW.heap];omega));have e30:w1.cell? ⟨w.heap.size+1,0,none⟩=some (.int .i64 a.kind):=Z41;have e31:w1.cell? ⟨w.heap.size+1,1,none⟩=some (.int .i64 a.r):=Z41;have e32:w1.cell? ⟨w.heap.size+1,2,none⟩=some (.int .i64 a.s):=Z41;have e33:w1.cell? ⟨w.heap.size+1,3,none⟩=some (.int .i64 a.i):=Z41;have e34:w1.cell? ⟨w.heap.size+1,4,none⟩=some (.int .i64 a.size):=Z41;have e35:w1.cell? ⟨w.heap.size+1,5,none⟩=some (.int .i64 a.ptrs):=Z41;have e36:w1.cell? ⟨w.heap.size+1,6,none⟩=some (.int .u64 a.v):=Z41;clear k3 k5
  go_wp2_with fail
  go_region_with (go_at_call 58;refine(HO1.out _ ?_).mono ?_;exact⟨rfl,rfl,rfl,rfl⟩;rintro e w2 ⟨nv,rv,xs,rfl,hb2,ho2⟩;have h30:=(hb2.cell (p:=⟨w.heap.size+1,0,none⟩) Z40).trans e30;have h31:=(hb2.cell (p:=⟨w.heap.size+1,1,none⟩) Z40).trans e31;have h32:=(hb2.cell (p:=⟨w.heap.size+1,2,none⟩) Z40).trans e32;have h33:=(hb2.cell (p:=⟨w.heap.size+1,3,none⟩) Z40).trans e33;have h34:=(hb2.cell (p:=⟨w.heap.size+1,4,none⟩) Z40).trans e34;have h35:=(hb2.cell (p:=⟨w.heap.size+1,5,none⟩) Z40).trans e35;have h36:=(hb2.cell (p:=⟨w.heap.size+1,6,none⟩) Z40).trans e36;have hbl:Below w1.heap.size w1 w2:=((Z5i _ w1).drew).trans hb2;have HB2:=Z4O hbl;have HO2:=Z4O (show GOwn w1.heap.size w2 g nv rv xs from ho2);clear hb2 ho2 hbl)
  all_goals
   have hW:=Wk.made (a:=a) (B:=w1.heap.size) HB2.out.size HO2.out;have hbw:Below w.heap.size w (w2.alloc (.cells #[nv,rv,.int .i64 a.kind,.int .i64 a.r,.int .i64 a.s,.int .i64 a.i,.int .i64 a.size,.int .i64 a.ptrs,.int .u64 a.v] 111)):=(HB1.out.trans (HB2.out.mono Z0)).alloc (by have:=HB2.out.size;omega) _
   have k5:(w2.alloc (.cells #[nv,rv,.int .i64 a.kind,.int .i64 a.r,.int .i64 a.s,.int .i64 a.i,.int .i64 a.size,.int .i64 a.ptrs,.int .u64 a.v] 111)).heap[w.heap.size+1+1]?=some (.cells #[.slice none 0 0,.slice none 0 0] 31 (0,0)):=by
    rw[Z4U _ _ _ (by have:=HB2.out.size;omega),HB2.out.block _ Z0];exact HK5.out
   have z3:w1.heap.size<=(w2.alloc (.cells #[nv,rv,.int .i64 a.kind,.int .i64 a.r,.int .i64 a.s,.int .i64 a.i,.int .i64 a.size,.int .i64 a.ptrs,.int .u64 a.v] 111)).heap.size:=by have:=HB2.out.size;simp;omega
   clear h30 h31 h32 h33 h34 h35 h36 e30 e31 e32 e33 e34 e35 e36 d20 d21;generalize w2.alloc (.cells #[nv,rv,.int .i64 a.kind,.int .i64 a.r,.int .i64 a.s,.int .i64 a.i,.int .i64 a.size,.int .i64 a.ptrs,.int .u64 a.v] 111)=w3 at*;obtain⟨rva,rvc,hrv⟩:=Xo hW.own.roots;have c1:w3.cell? ⟨w2.heap.size,1,none⟩=some (.slice rva g.roots.length rvc):=by rw[Z4Q _ _ _ _ _ _ hW.blk,<-hrv];rfl
   have c2:w3.cell? ⟨w2.heap.size,2,none⟩=some (.int .i64 a.kind):=Z47;have c3:w3.cell? ⟨w2.heap.size,3,none⟩=some (.int .i64 a.r):=Z47;have c4:w3.cell? ⟨w2.heap.size,4,none⟩=some (.int .i64 a.s):=Z47;have HN:=Z4O (CG w3 w2.heap.size a.kind a.r a.s rva g.roots.length rvc Z0 c1 c2 c3 c4);have HD1:=Z4O (show Calls _ _ _ _ (λe w'=>e=.returned (.func (.func (DW a.kind)) #[.pointer (some ⟨w2.heap.size,0,none⟩)] #[])/\w'=w3)from DY w3 w2.heap.size a.kind c2);have HD2:=Z4O (λhn=>HDC.out hW z3 hr hn);have HBW:=Z4O hbw;have K5:=Z4O k5;clear c1 c2 c3 c4 hrv hW hbw k5;generalize w2.heap.size=bw at*;have HCF:=Z4O (JN a.kind);generalize DW a.kind=F at*
   go_wp2_with fail
   refine HN.out.mono ?_;rintro e w' ⟨rfl,hw'⟩;subst hw';rw[show WG g.roots.length a.kind a.r a.s=J0 g a from rfl]
  all_goals
   cases hn:J0 g a
   ·have e50:w'.cell? ⟨w.heap.size+1+1,0,none⟩=some (.slice none 0 0):=by rw[Z4Q _ _ _ _ _ _ K5.out];rfl
    have e51:w'.cell? ⟨w.heap.size+1+1,1,none⟩=some (.slice none 0 0):=by rw[Z4Q _ _ _ _ _ _ K5.out];rfl
    have ef0:w'.frozen? ⟨w.heap.size+1+1,0,none⟩=false:=ZX K5.out;have ef1:w'.frozen? ⟨w.heap.size+1+1,1,none⟩=false:=ZX K5.out;go_wp2;have hfA:=AO _ (w.heap.size+1+1) (.slice none 0 0) (.slice none 0 0) K5.out;refine Z5X (v:=.tuple #[.int .u64 0,.agg #[.slice none 0 0,.slice none 0 0],.int .i64 1]) Z4j rfl ⟨_,rfl,(HBW.out.setCell Z3N _).setCell Z3N _,?_⟩;rw[show doR g a=(0,noGr,1)by simp[doR,hr,hn]];exact NE _ _
   ·have HD3:=Z4O (HD2.out hn)
    go_wp2_with fail
    refine HD1.out.mono ?_;rintro e w'' ⟨rfl,hw''⟩;subst hw'';have hcf:=qw HCF.out
    go_wp2_with fail
    clear hcf;refine HD3.out.mono ?_;rintro e w4 ⟨rfl,hb4,hh4⟩;have k5:w4.heap[w.heap.size+1+1]?=some (.cells #[.slice none 0 0,.slice none 0 0] 31 (0,0)):=(hb4.block _ Z0).trans K5.out;have HB4:=Z4O (HBW.out.trans (hb4.mono Z0));have hdo:doR g a=((doR g a).1,(doR g a).2.1,(doR g a).2.2):=rfl;have hE:=MY (g:=g) (a:=a);clear hb4 HD2 HD3;generalize (doR g a).1=v at*;generalize (doR g a).2.2=c at*;generalize (doR g a).2.1=g' at*;have e50:w4.cell? ⟨w.heap.size+1+1,0,none⟩=some (.slice none 0 0):=by rw[Z4Q _ _ _ _ _ _ k5];rfl
    have e51:w4.cell? ⟨w.heap.size+1+1,1,none⟩=some (.slice none 0 0):=by rw[Z4Q _ _ _ _ _ _ k5];rfl
    have ef0:w4.frozen? ⟨w.heap.size+1+1,0,none⟩=false:=ZX k5;have ef1:w4.frozen? ⟨w.heap.size+1+1,1,none⟩=false:=ZX k5;have K6:=Z4O k5;have HDO:=Z4O hdo;have HE:=Z4O hE;have HH4:=Z4O hh4;clear k5 hdo hE hh4;by_cases hc:c=0
    ·obtain⟨nv',rv',xs',h0,h1,hh⟩:=HH4.out hc;obtain⟨nva,nvc,hnv'⟩:=Xo hh.nodes;obtain⟨rva',rvc',hrv'⟩:=Xo hh.roots;subst hnv';subst hrv';have HHH:=Z4O hh;clear hh;subst hc;have hd:Dr w4 w4.drew:=(Dr.refl w4).drew;have HD:=Z4O hd;clear hd
     go_wp2_with fail
     go_region
     all_goals
      go_wp2
      try simp only[Exit.inBlock,Exit.then]
      have hfA:=AO w4 (w.heap.size+1+1) (.slice nva g'.nodes.length nvc) (.slice rva' g'.roots.length rvc') K6.out;refine Z5X (v:=.tuple #[.int .u64 v,.agg #[.slice nva g'.nodes.length nvc,.slice rva' g'.roots.length rvc'],.int .i64 0]) Z4j rfl ⟨_,rfl,((HB4.out.setCell Z3N _).setCell Z3N _).drew,?_⟩;rw[HDO.out];exact(Pa (C:=w.heap.size) HHH.out Z0 Z0).keep (λ_ _=>rfl) λ_ h=>h
    ·obtain⟨c',hc',hdo'⟩:=HE.out hc;have hcc:=hdo'.symm.trans HDO.out;cases hcc;go_wp2;have hfA:=AO w4 (w.heap.size+1+1) (.slice none 0 0) (.slice none 0 0) K6.out;refine Z5X (v:=.tuple #[.int .u64 0,.agg #[.slice none 0 0,.slice none 0 0],.int .i64 c]) Z4j rfl ⟨_,rfl,(HB4.out.setCell Z3N _).setCell Z3N _,?_⟩;rw[hdo'];exact NE _ _
def P9{g:Gr}{a:Ac}(hg:g.sm)(HDC:IW g a):VC Sol.prog 26 false [grV g,acV a] (doV (doR g a)):=by
 refine⟨Z2,λw G vs hG hsz hvs=> ?_⟩;have r0:=hvs 0 _ rfl;have r1:=hvs 1 _ rfl;obtain⟨⟨l⟩⟩:=vs
 ·simp at hsz
 rename_i v0 l;cases l with
 |nil=>simp at hsz
 |cons v1 l=>
  cases l with
  |cons _ _=>simp at hsz
  |nil=>
   simp at r0 r1;obtain⟨a0,c0,rv0,rfl,hr0,hsrc⟩:=Rd.src r0 hG hg;have:=Rd.actf r1;subst this;refine(N0 w g a a0 c0 rv0 hg (Z4O HDC) (Z4O ?_) (Z4O ?_)).mono ?_
   ·intro W hW hs;refine((TQ hg).2 W G _ (λb hb=>Z4F (hG b hb) hs) Z1 ?_).mono ?_
    ·intro i x hx
     match i,hx with
     |0,hx=>cases hx;exact r0.keep (λb hb=>hW b (hG b hb)) λ_ h=>h
    ·rintro e W' ⟨v,rfl,hb,hv⟩;cases hv;exact⟨rfl,hb⟩
   ·intro W hW hs;refine Ib W G (λb hb=>Z4F (hG b hb) hs) g a0 g.nodes.length c0 rv0 rfl hg.1 hg.2.1 ?_ (hr0.keep (λb hb=>hW b (hG b hb)) λ_ h=>h);intro hpos;obtain⟨bs,os,ha,hx⟩:=hsrc hpos;refine⟨bs,os,ha,λk x hk=> ?_⟩;obtain⟨hl,pa,pc,da,dc,hbs,q1,q2,q3,q4⟩:=hx k x hk;exact⟨hl,pa,pc,da,dc,Z0,(Z5j (hW bs hbs)).trans q1,(Z5j (hW bs hbs)).trans q2,q3.keep (λb hb=>hW b (hG b hb)) λ_ h=>h,q4.keep (λb hb=>hW b (hG b hb)) λ_ h=>h⟩
   ·rintro e w' ⟨v,rfl,hb,hr⟩;exact⟨v,rfl,hb,hr.mono λb hb=>.inr hb⟩
def MZ{g:Gr}{a:Ac}(hg:g.sm)(hk:a.kind=7):VC Sol.prog 26 false [grV g,acV a] (doV (doR g a)):=P9 hg λh1 h2 h3 h4=>by
 rw[hk];exact DX h1 h2 hg h3 h4 hk
end Vm
end
section
namespace Vm
open Go
open Go.Proofs
def p6:Fn:=⟨39,[0,1,2,3,4,8,9,10,11,12,13,14,15,16,18,17,19,82,20,21,22,93,23,97,24,25,26,131,27,28,159,29,30,164,181,31,190,211,223],
pQ [pR [(4,pS 0 7),pV 5 pF],pC [pK 39 13 []] [pV 6 (.s 39)],pC [pK 40 16 [.mm 4 0 7]] [(7,pS 40 10)],pC [pK 41 15 [.mm 7 0 10]] [(8,pM (.sz (.ext (.s 41) 0) 2) 2),pV 9 (.ext (.s 41) 1)],pC [pK 42 14 [.s 3,.len (.m 7 9)]] [pV 10 (.s 42)],pR [(11,pM (.mm 7 0 10) 10)],pR [(11,.m [.m 11 0,.m 11 1,.m 11 2,.m 11 3,.m 11 4,.m 11 5,.m 11 6,.m 11 7,.m 11 8,.app pN (.m 7 9) 1])],.reg ⟨[],[([],.idx (.m 11 9) (.s 10) 1)],[(11,.m [.m 11 0,.m 11 1,.m 11 2,.m 11 3,.m 11 4,.m 11 5,.m 11 6,.m 11 7,.m 11 8,.upd (.m 11 9) (.s 10) 0 (pU 0)])]⟩,pC [pK 43 15 [.mm 11 0 10]] [(12,pM (.sz (.ext (.s 43) 0) 2) 2),pV 13 (.fl (.ext (.s 43) 1))],pC [pK 44 26 [.mm 8 0 2,.ag [pI 7,.one (.s 10),pI 0,pI 0,pI 0,pI 0,pU 0]]] [(14,pM (.sz (.ext (.s 44) 1) 2) 2),pV 15 (.ext (.s 44) 0),pV 16 (.ext (.s 44) 2)],pQ [.reg ⟨[.lt 45 [] (.bin .neq (.s 9) (pI 0)),.lt 46 [] (.ite (.s 45) pT (.bin .neq (.s 13) (pI 0))),.lt 47 [] (.ite (.s 46) pT (.bin .neq (.s 16) (pI 0))),.call 48 [(47,false)] (.id 24) false false [.mm 12 0 2,.mm 14 0 2]],[([(45,false)],.bin .neq (.s 13) (pI 0)),([(46,false)],.bin .neq (.s 16) (pI 0)),([(47,false)],.un .not (.s 48))],[pV 17 (.ite (.s 47) pT (.un .not (.s 48)))]⟩] (.cond (.s 17) (pQ [pR [pV 5 pF]] .ret) .skip),pC [pK 49 14 [.s 1,pI 2]] [pV 18 (.bin .add (pI 1) (.s 49))],pC [pK 50 27 [.mm 7 0 10,.s 18]] [pV 19 (.ext (.s 50) 0),pV 20 (.ext (.s 50) 1)],pQ [pR [pV 21 (.bin .neq (.s 20) (pI 0))]] (.cond (.s 21) (pQ [pR [pV 5 pF]] .ret) .skip),pQ [pR [pV 22 (pI 0)]] (.block 0 (.loop [0,1,2,3,4,5,6,7,8,9,10,11,12,13,14,15,16,17,18,19,20,21,22] (pQ [pQ [pR [pV 23 (.bin .lss (.s 22) (.len (.s 19)))]] (.cond (.s 23) .skip (.exit 0)),.block 1 (pQ [pR [(24,pM (.flds (.idx (.s 19) (.s 22) 5) 0 5) 5)],pC [pK 51 28 [.mm 7 0 10,.s 18]] [pV 25 (.app pN (.s 51) 1)],pR [pV 26 (.bin .add (.bin .add (.m 24 0) (pI 1)) (.m 24 2))],pQ [.reg ⟨[.lt 52 [] (.bin .eql (.m 24 1) (.m 24 2)),.lt 53 [] (.ite (.s 52) pT (.bin .lss (.s 26) (pI 0)))],[([(52,false)],.bin .lss (.s 26) (pI 0)),([(53,false)],.bin .geq (.s 26) (.len (.s 25)))],[pV 27 (.ite (.s 53) pT (.bin .geq (.s 26) (.len (.s 25))))]⟩] (.cond (.s 27) (.exit 1) .skip),pR [pV 25 (.upd (.s 25) (.s 26) 0 (.bin .xor (.fld (.idx (.s 25) (.s 26) 1) 0) (.s 2)))],pC [pK 54 29 [.mm 7 0 10,.s 18,.s 25],pK 55 15 [.s 54]] [(28,pM (.sz (.ext (.s 55) 0) 2) 2),pV 29 (.fl (.ext (.s 55) 1))],pQ [.reg ⟨[.lt 56 [] (.bin .neq (.s 29) (pI 0))],[([(56,false)],.bin .neq (.len (.m 28 0)) (.len (.m 8 0)))],[pV 30 (.ite (.s 56) pT (.bin .neq (.len (.m 28 0)) (.len (.m 8 0))))]⟩] (.cond (.s 30) (pQ [pR [pV 5 pF]] .ret) .skip),pR [pV 31 (pI 0)],pQ [pR [pV 32 (pI 0)]] (.block 2 (.loop [0,1,2,3,4,5,6,7,8,9,10,11,12,13,14,15,16,17,18,19,20,21,22,23,24,25,26,27,28,29,30,31,32] (pQ [pQ [pR [pV 33 (.bin .lss (.s 32) (.len (.m 28 0)))]] (.cond (.s 33) .skip (.exit 2)),.block 3 (pQ [pQ [pR [pV 34 (.bin .neq (.len (.fld (.idx (.m 28 0) (.s 32) 2) 1)) (.len (.fld (.idx (.m 8 0) (.s 32) 2) 1)))]] (.cond (.s 34) (pQ [pR [pV 5 pF]] .ret) .skip),pR [pV 35 (pI 0)]] (.block 4 (.loop [0,1,2,3,4,5,6,7,8,9,10,11,12,13,14,15,16,17,18,19,20,21,22,23,24,25,26,27,28,29,30,31,32,33,34,35] (pQ [pQ [pR [pV 36 (.bin .lss (.s 35) (.len (.fld (.idx (.m 28 0) (.s 32) 2) 1)))]] (.cond (.s 36) .skip (.exit 4)),.block 5 (pQ [pR [pV 37 (.bin .neq (.fld (.idx (.fld (.idx (.m 28 0) (.s 32) 2) 1) (.s 35) 1) 0) (.fld (.idx (.fld (.idx (.m 8 0) (.s 32) 2) 1) (.s 35) 1) 0))]] (.cond (.s 37) (pR [pV 31 (.bin .add (.s 31) (pI 1))]) .skip))] (pR [pV 35 (.bin .add (.s 35) (pI 1))])))))] (pR [pV 32 (.bin .add (.s 32) (pI 1))])))),.reg ⟨[.lt 57 [] (.bin .gtr (.s 31) (pI 1)),.lt 58 [(57,false)] (.bin .eql (.s 2) (pU 0))],[([(57,false),(58,true)],.bin .gtr (.s 31) (pI 0)),([(57,false)],.ite (.s 58) (.bin .gtr (.s 31) (pI 0)) pF)],[pV 38 (.ite (.s 57) pT (.ite (.s 58) (.bin .gtr (.s 31) (pI 0)) pF))]⟩] (.cond (.s 38) (pQ [pR [pV 5 pF]] .ret) .skip))] (pR [pV 22 (.bin .add (.s 22) (pI 1))])))),pR [pV 5 (.s 6)]] .ret,[(5,.v)]⟩
def c6:Zf (bes Try.prog) fresh sig [.fz,.fz,.fz,.fz] [] Try.f6=some p6:=Z2
end Vm
end
section
namespace Vm
open Go Go.Proofs
def xorW(a b:Int):Int:=IntKind.u64.wrap (BitVec.ofInt IntKind.u64.bits a ^^^ BitVec.ofInt IntKind.u64.bits b).toNat
def H5(a b:Int):binV .xor (vu a) (vu b)=some (vu (xorW a b)):=Z4r
def Z2U{v:Int}(h:U64 v):xorW v 0=v:=by
 obtain⟨h1,h2⟩:=h
 have e:(BitVec.ofInt IntKind.u64.bits v ^^^ BitVec.ofInt IntKind.u64.bits 0).toNat=v.toNat:=by
  have hz:∀n,BitVec.ofInt n 0=0#n:=λn=>Z1;rw[hz,BitVec.xor_zero,BitVec.toNat_ofInt];show(v% ((2 ^ 64:Nat):Int)).toNat=v.toNat;omega
 unfold xorW;rw[e,Z87];omega
def GU{h:Hp}{n:Int}:VC (bes Try.prog) 28 false [hpV h,vi n] (.sl ((Zd h n).map vu)):=up (qZ (h:=h) (n:=n)) (nom2 (KP h) (.int _ _)) (CH _)
def GX{h:Hp}{n:Int}{l:List Int}:VC (bes Try.prog) 29 false [hpV h,vi n,.sl (l.map vu)] (hpV (Xa h n l)):=up (j0 (h:=h) (n:=n) (l:=l)) (λy hy=>by
 simp only[Z4H,Z5t,Z6u]at hy;obtain rfl|rfl|rfl:=hy<;>first|exact KP _|exact .int _ _|exact CH _) (KP _)
def p7(l:List Ob):NoM (.sl (l.map obV)):=.sl _ λc hc=>by
 have:∀l:List Ob,∀c∈flat (l.map obV),NoM c:=by
  intro l
  induction l with
  |nil=>simp
  |cons o l ih=>
   intro c hc;simp only[Z4T,Ci,Z4R]at hc;obtain hc|hc:=hc
   ·simp[obV]at hc;obtain rfl|rfl|rfl|rfl|rfl:=hc<;>first|exact .int _ _|exact .bool _
   simp_all
 grind
def OI{h:Hp}(hh:h.ok){k:Int}:VC (bes Try.prog) 27 false [hpV h,vi k] (.tup [.sl ((Uz h k).1.map obV),vi (Uz h k).2]):=up (OJ hh) (nom2 (KP h) (.int _ _)) (.tup _ λc hc=>by
 simp only[Z4H,Z5t,Z6u]at hc;obtain rfl|rfl:=hc
 ·exact p7 _
 ·exact .int _ _)
def GP{g:Gr}(hg:g.sm)(hr:right g=true){k:Int}(hk:isRt g k=true):VC (bes Try.prog) 26 false [grV g,acV ⟨7,k,0,0,0,0,0⟩] (.tup [vu 0,grV (YP g k (-1)),vi 0]):=by
 have h:=MZ (a:=⟨7,k,0,0,0,0,0⟩) hg rfl;have e:doR g ⟨7,k,0,0,0,0,0⟩=(0,YP g k (-1),0):=by simp[doR,hr,J0,hk]
 rw[e]at h;refine up h (nom2 (Rf g) (.agg _ λc hc=> ?_)) (.tup _ λc hc=> ?_)
 ·simp at hc;obtain rfl|rfl|rfl|rfl:=hc<;>exact .int _ _
 ·simp only[Z4H,Z5t,Z6u]at hc;obtain rfl|rfl|rfl:=hc
  ·exact .int _ _
  ·exact Rf _
  ·exact .int _ _
instance fitScalars:FitF (bes Try.prog) 6:=Qz (P:=Try.prog) Try.func6 rfl Z2
def yq{x:Rw}(hx:x.ok){at_ w q:Int}(ha:Fit at_)(hw:U64 w)(hq:Fit q):
  VC (bes Try.prog) 6 false [rwV x,vi at_,vu w,vi q] (.bool true):=by
 refine Z8 (P:=bes Try.prog) Try.func6 Tr Z2 c6 rfl ?_;simp[p6];refine Z4 C2 Z1 ?_;simp;have kh:=GS hx;unfold rwV at kh;refine Z4 kh Z1 ?_;obtain⟨hh,hl,hro⟩:=Hk hx;have hro1:=jq hx;obtain⟨p,r⟩:=qt.1 (jp hx);generalize So x=h at*;have k1:=Qb hh;have hsm:=Fr hh;rw[r.ofG]at k1 hsm;simp only at k1 hsm;have hrg:=r.vg_right;simp only[hpV,grV]at k1;simp;refine Z4 k1 Z1 ?_;simp;refine Z4 (qd hq (n:=h.roots.length) Z0) Z1 ?_;have hk:=Xw (c:=q) (n:=h.roots.length) Z0;obtain⟨k,hke⟩:=Z4P hk.1;rw[hke]at hk⊢;have hkl:k<h.roots.length:=Z0;have hlim:h.roots.length<=lim:=Z3Y
 have k2:=Qb (h:=DZ h k) (by
  obtain⟨a1,a2,a3,a4,a5,a6,a7,a8,a9,b1,b2,b3,b4,b5⟩:=hh;refine⟨a1,a2,a3,a4,a5,a6,a7,a8,by show(h.roots.set k 0).length<=_;rw[Z6C];exact a9,b1,b2,b3,b4,λw hw=> ?_⟩;obtain hw|rfl:=Z5z hw
  ·exact b5 w hw
  ·exact⟨Z0,Z0⟩)
 rw[(E0 r k).ofG,N1 r k]at k2;simp only[hpV,DZ,grV,Z6f]at k2;have hA:=BZ hrg k
 have hsA:(ZT (YP (vg h) k (-1))).sm:=Li (by
  obtain⟨s1,s2,s3⟩:=(ofOk hh r.right).sm.gr;exact⟨s1,by show(List.set _ _ _).length<=_;rw[Z6C];exact s2,s3⟩) (T6 hrg k)
 have hgl:(ZT (vg h)).roots.length=h.roots.length:=by simp[ZT,YM,vg,Vw.gr]
 have hsB:(YP (ZT (vg h)) k (-1)).sm:=by
  obtain⟨s1,s2,s3⟩:=hsm;exact⟨s1,by show(List.set _ _ _).length<=_;rw[Z6C];exact s2,s3⟩
 have k3:=GP hsm (Vk hrg) (k:=k) (LD.2 ⟨Z0,Z0⟩);have k4:=Dv hsA hsB;rw[hA]at k4;generalize ZT (YP (vg h) k (-1))=A at*;simp only[grV,acV]at k3;generalize hB:YP (ZT (vg h)) k (-1)=B at*;simp only[grV]at k4;simp[hlim,hkl];refine Z4 k2 Z1 ?_;simp;refine Z4 k3 Z1 ?_;simp;refine Z4 k4 Z1 ?_;simp;refine Z4 (qd ha (n:=2) Z0) Z1 ?_;have hpk:=Xw (c:=at_) (n:=2) Z0;generalize pick at_ 2=k0 at*;have wk:=Z7 (1+k0) Z0 Z0;generalize hke2:1+k0=K at*;have hK:1<=K/\K<=2:=Z0;have ob:=OI hh (k:=K);rw[r.objs Z0]at ob;have hol:=Fm hh K;rw[r.objs Z0]at hol;have pt:=GU (h:=h) (n:=K);have hpl:=FX hl K;simp only[hpV]at ob hol pt;simp[hke2,wk];refine Z4 ob Z1 ?_;simp;refine S7 22 (p.at K).length (λ_=>True) Z1 Z1 trivial ?_;intro i hi _;by_cases hlt:i< (p.at K).length
 case neg=>
  have:i=(p.at K).length:=Z0;subst this;simp
 have ho:(p.at K)[i]?=some (p.at K)[i]:=Z4u hlt;have hom:=Z4J hlt;generalize (p.at K)[i]=o at*;obtain⟨a,n,m,ea,en,em,hal,hn5,hmn⟩:=r.toTld.ob Z0 hom;have w0:=Z7 ((i:Int)+1) Z0 Z0;have w1:=Z7 ((a:Int)+1) Z0 Z0;have w2:=Z7 ((a:Int)+1+m) Z0 Z0;have hpm:(Zd h K).length<=lim:=Z3Y;simp[hlt,ho,ZA ho,ea,en,em,w0,w1,w2];refine Z4 pt Z1 ?_;obtain⟨z,hz⟩:∃z:Nat,a+1+m=z:=⟨_,rfl⟩;have hzi:(a:Int)+1+m=z:=Z0;by_cases hne:n=m
 ·subst hne;simp[hpm,w0,w1,w2,hlt]
 have hne':¬(n:Int)=m:=Z0;have hzl:z< (Zd h K).length:=Z0;have hzv:(Zd h K)[z]?=some (Zd h K)[z]:=Z4u hzl;have hU:=(ZE hh K).1;have hUv:=hU _ (Z4J hzl);generalize (Zd h K)[z]=v at*;have wz:=Z7 (z:Int) Z0 Z0;have hsz:(o.at_+1+o.ptrs).toNat=z:=Z0;have hxu:U64 (xorW v w):=Dq _;have hps:o.ptrs<o.size:=Z0
 have hok:(U1 h K o (xorW v w)).ok:=IR hh (by rw[Z6C];omega) (λu hu=>by
  obtain hu|rfl:=Z5z hu
  ·exact hU u hu
  ·exact hxu)
 have k6:=GX (h:=h) (n:=K) (l:=(Zd h K).set z (xorW v w));have k7:=Qb hok;have hsC:=Fr hok;rw[(Gb r hK hom hps hxu hU).ofG]at k7 hsC;obtain⟨P,Q,hlen,hd⟩:=Ga r hK hom hps hxu hU
 have h0:w=0->ZT (vg (U1 h K o (xorW v w)))=ZT (vg h):=λe=>by
  rw[e,Z2U hUv,Gc K o (by rw[hsz];exact hzv)]
 have hse:Xa h K ((Zd h K).set z (xorW v w))=U1 h K o (xorW v w):=by unfold U1;rw[hsz]
 rw[hse]at k6;generalize U1 h K o (xorW v w)=g at*;simp only[hpV,Z6f]at k6;simp only[hpV,grV]at k7;simp only at hsC;have hGl:=hsm.1;have hGn:=hsm.2.2;have hCn:=hsC.2.2;generalize ZT (vg g)=C at*;generalize ZT (vg h)=G at*;simp[hpm,w0,w1,w2,wz,hlt,hne,hne',hzi,hzl,hzv,ZA hzv,H5,V.put];refine Z4 k6 Z1 ?_;simp;refine Z4 k7 Z1 ?_;have hfl:flV (vi 0)=some (vi 0):=rfl;simp[hlen,hfl];refine BU 32 G.nodes.length (λj (t:Nat)=>[(31,.v (vi t)),(32,.v (vi j))]) (λj t=>(t=0\/t=1/\P<j)/\(w=0->t=0)) 0 Z1 Z1 Z1 ?_;rintro j t hj ⟨ht,htw⟩;have wj:=Z7 ((j:Int)+1) Z0 Z0;by_cases hjl:j<G.nodes.length
 ·have hjc:j<C.nodes.length:=Z0;have g1:G.nodes[j]?=some G.nodes[j]:=Z4u hjl;have c1:C.nodes[j]?=some C.nodes[j]:=Z4u hjc;obtain⟨d1,d2⟩:=hd j _ _ c1 g1;have s1:=(hCn _ (Z4J hjc)).2
  have heq:w=0->C.nodes[j]=G.nodes[j]:=λe=>by
   have:=h0 e;subst this;rfl
  generalize C.nodes[j]=cn at*;generalize G.nodes[j]=gn at*;simp[hlen,hjl,g1,c1,ZA g1,ZA c1,d1];refine BU 35 gn.data.length (λl (t:Nat)=>[(31,.v (vi t)),(35,.v (vi l))]) (λl t=>(t=0\/t=1/\(P<j\/P=j/\Q<l))/\(w=0->t=0)) t Z1 Z1 ⟨Z0,htw⟩ ?_;rintro l t2 hl2 ⟨ht2,htw2⟩;have wl:=Z7 ((l:Int)+1) Z0 Z0;have wt:=Z7 ((t2:Int)+1) Z0 Z0;by_cases hll:l<gn.data.length
  ·have hlc:l<cn.data.length:=Z0;have u1:cn.data[l]?=some cn.data[l]:=Z4u hlc;have v1:gn.data[l]?=some gn.data[l]:=Z4u hll;have hdd:=d2 l _ _ u1 v1
   have hww:w=0->cn.data[l]=gn.data[l]:=λe=>by
    have:=heq e;subst this;rfl
   generalize cn.data[l]=u at*;generalize gn.data[l]=v' at*;by_cases huv:u=v'
   ·simp[hlen,hjl,g1,c1,ZA g1,ZA c1,d1,hll,u1,v1,ZA u1,ZA v1,huv,wl];exact⟨t2,⟨Z0,htw2⟩,rfl⟩
   ·simp[hlen,hjl,g1,c1,ZA g1,ZA c1,d1,hll,u1,v1,ZA u1,ZA v1,huv,wl,wt];obtain⟨q1,q2⟩:=hdd huv;exact⟨1,⟨.inr ⟨rfl,Z0⟩,λe=>absurd (hww e) huv⟩,Z0⟩
  ·have:l=gn.data.length:=Z0;subst this;simp[hlen,hjl,g1,c1,ZA g1,ZA c1,d1,wj];exact⟨t2,⟨Z0,htw2⟩,rfl⟩
 ·have:j=G.nodes.length:=Z0;subst this;have ht1:(t:Int)<=1:=Z0;simp[hlen,ht1];split
  ·exact⟨htw ‹_›,w0⟩
  ·exact w0
end Vm
end
section
namespace Go.Proofs.Ytffknkhabklijaa
open Vm Go.ChangeShapes Go.WideShapes Go.ChangeAt Go.RowKit
def viewScalars_law(xs:List V)(hl:xs.length=Try.f6.params.toList.length)(ht:∀(i:Nat) (t:TypeId) (x:V),Try.f6.params.toList[i]?=some t->xs[i]?=some x->tyV Try.prog 8 t x):
  VC (bes Try.prog) 6 false xs (.bool true):=by
 rw[Try.params6]at hl ht
 match xs,hl with
 | [x0,x1,x2,x3],_=>
   obtain⟨x,rfl,hx⟩:=Z2J (ht 0 _ x0 rfl rfl);obtain⟨a,rfl,ha⟩:=Di (ht 1 _ x1 rfl rfl);obtain⟨w,rfl,hw⟩:=Oj (ht 2 _ x2 rfl rfl);obtain⟨q,rfl,hq⟩:=Di (ht 3 _ x3 rfl rfl);exact yq hx ha hw hq
def viewScalars_lifted(os:Os)(started:os.Started)(H:Type)(enc:TypeId×Value->H):
  ReturnsInLeavingWide {} Try.checked os 6 .any (Rows.viewScalarsSpec.pre6 enc Try.prog Try.f6 Rows.viewScalarsRow.domain false) (Rows.viewScalarsSpec.post enc Try.prog Try.f6 false true false false):=by
 refine returnsInLeavingWide_of_change_sized (C:=Try.checked) own started Try.func6
  (ChangeSpec.witness6 (enc:=enc) (C:=Try.checked) false ⟨#[], #[.agg #[.slice none 0 0,.slice none 0 0,.slice none 0 0,.int .u64 0,.int .i64 0,.int .i64 0,.int .i64 0],.int .i64 0,.int .u64 0,.int .i64 0],[]⟩ 8 Z2 Z2 Z2 Z2) ?_
 intro W base args ds gs before hval hW _ _ _
 exact Lu (P:=Try.prog) Z2 (LE (P:=bes Try.prog) (tb:=4) 8 laidOut Z2 Z2 rfl Z2 Try.underlying4 (λH ds hd=>by
  rw[Try.params6]at hd
  match ds,hd with
  | [_,_,_,_],_=>rfl) viewScalars_law H enc W base args ds gs before hval hW)
theorem viewScalars_holds:Rows.ViewScalarsSaid:=
 OpenClaim.holds_of_wide_leaving 6 Try.f6 rfl rfl rfl rfl rfl rfl rfl ⟨rfl,rfl,rfl,rfl,rfl⟩ rfl rfl rfl rfl rfl Z2 Try.func6 Z2
  (Z70 Z2) (by unfold Func.isWrapper;first|(rw[if_pos Z3O];kernel_rfl)|(rw[if_neg Z3O];exact⟨rfl,rfl⟩))
  (λos started H enc _=>viewScalars_lifted os started H enc)
#print axioms viewScalars_holds
end Go.Proofs.Ytffknkhabklijaa
end
