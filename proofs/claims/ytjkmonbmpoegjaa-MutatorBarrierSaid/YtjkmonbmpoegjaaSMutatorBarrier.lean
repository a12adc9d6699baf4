/-
  The law MutatorBarrier holds of the given program, for every input.
-/
import Derived.Deep.RegionHeld3
import Derived.Test.YtjkmonbmpoegjaaRows
import Derived.Test.YtjkmonbmpoegjaaSMutatorBarrier7
set_option linter.unusedSimpArgs false
set_option linter.unusedVariables false
set_option linter.defProp false
def ZbR:=@_root_.List.filter_cons_of_pos
section
namespace Vm
open Go Go.Proofs Go.RowKit
set_option maxHeartbeats 4000000
set_option maxRecDepth 100000
theorem Kl{P:Program}{f:FuncId}(hcb:ZY P f=true)(args:Array Value)(W:World):(callFunc f args).run P W= .ok (.enter f args) W:=by
 unfold ZY at hcb;split at hcb
 ·rename_i fn hfn;simp only[Z8u,Z9l,Zal,ne_eq]at hcb;obtain⟨h1,h2⟩:=hcb;obtain⟨code,h3⟩:=Z9E.1 h2;simp[callFunc,hfn,h1,h3]
 ·cases hcb
def DoPost(G:Nat→Prop)(w:World)(r:Int×Hp×Int)(e:Ending)(w':World):Prop:=
 ∃x,e= .returned (.tuple #[.int .u64 r.1,hpA r.2.1 x,.int .i64 r.2.2])∧Below w.heap.size w w'∧ ∀j,j<5→Rd w' (fun c=>G c∨(w.heap.size≤c∧c<w'.heap.size)) (.sl ((lsH r.2.1 j).map vu)) (x j)
theorem LU{w W:World}{G:Nat→Prop}(hG: ∀b,G b→b<w.heap.size){g:Hp}{x:Nat→Value}(bel:Below w.heap.size w W)(rd: ∀j,j<5→Rd W (fun c=>G c∨(w.heap.size+3≤c∧c<W.heap.size)) (.sl ((lsH g j).map vu)) (x j))(v e:Int)(v0 v1 v2 v3 v4 v5 v6 v7 v8 v9:Value):DoPost G w (v,g,e) (.returned (.tuple #[.int .u64 v,hpA g x,.int .i64 e])) ((((((((((W.setCell ⟨w.heap.size+1+1,0,none⟩ v0).setCell ⟨w.heap.size+1+1,1,none⟩ v1).setCell ⟨w.heap.size+1+1,2,none⟩ v2).setCell ⟨w.heap.size+1+1,3,none⟩ v3).setCell ⟨w.heap.size+1+1,4,none⟩ v4).setCell ⟨w.heap.size+1+1,5,none⟩ v5).setCell ⟨w.heap.size+1+1,6,none⟩ v6).setCell ⟨w.heap.size+1+1,7,none⟩ v7).setCell ⟨w.heap.size+1+1,8,none⟩ v8).setCell ⟨w.heap.size+1+1,9,none⟩ v9):=by
 have hs:=Vz W (w.heap.size+1+1) v0 v1 v2 v3 v4 v5 v6 v7 v8 v9;unfold WP at hs;refine⟨x,rfl,Zh bel (by omega) _ _ _ _ _ _ _ _ _ _,fun j hj=>((rd j hj).keep (fun b hb=>Zt ?_ _ _ _ _ _ _ _ _ _ _) fun _ q=>q).mono fun b q=>q.imp (fun q=>q) fun q=>⟨by omega,?_⟩⟩
 ·rcases hb with q|q
  ·have:=hG b q;omega
  ·omega
 ·rw[hs];exact q.2
theorem DoPost.drew{G:Nat→Prop}{w W:World}{r:Int×Hp×Int}{e:Ending}(h:DoPost G w r e W):DoPost G w r e W.drew:=by
 obtain⟨x,h1,h2,h3⟩:=h;exact⟨x,h1,h2.drew,fun j hj=>(h3 j hj).keep (fun b _=>rfl) fun _ q=>q⟩
theorem Z7v(w:World)(G:Nat→Prop)(hG: ∀b,G b→b<w.heap.size)(h:Hp)(hh:h.ok)(src:Nat→Value)(hs: ∀j,j<5→Rd w G (.sl ((lsH h j).map vu)) (src j))(hr:ZD h=true){k rr s i z pp v vv er:Int}{g:Hp}(hk:1≤k∧k≤7)(hin: ∀u∈XQ k rr s,0≤u∧u<h.roots.length)
  {F:FuncId} (hcF:ZY Try.prog F=true) (hM: ∀(n:Nat) (W:World) (x:Value),0<n→(method n (Xw k) x "cromlech/mutator.do").run Try.prog W= .ok (F,x) W)
  (hF: ∀W,Below w.heap.size w W→Calls Try.prog F #[.agg (actA k rr s i z pp v),hpA h src] W (Kb G W (g,er)))
  (hE:(¬er=0∧vv=0∧g=Hp.zero)∨(er=0∧vv=0∧ ∀(W:World) (x:Value),(Instr.typeAssert (.iface (Xw k) x) 94 98 true).run Try.prog W= .ok (.tuple #[.nilIface,.bool false]) W)∨
   (er=0∧(∀(W:World) (x:Value),(Instr.typeAssert (.iface (Xw k) x) 94 98 true).run Try.prog W= .ok (.tuple #[.iface (Xw k) x,.bool true]) W)∧ ∃Fo,ZY Try.prog Fo=true∧(∀(n:Nat) (W:World) (x:Value),0<n→(method n (Xw k) x "cromlech/mutator.told").run Try.prog W= .ok (Fo,x) W)∧
    ∀W,Below w.heap.size w W→Calls Try.prog Fo #[.agg (actA k rr s i z pp v),hpA h src] W fun e w'=>e= .returned (.int .u64 vv)∧Below W.heap.size W w'))
  :Calls Try.prog 34 #[hpA h src,.agg (actA k rr s i z pp v)] w (DoPost G w (vv,g,er)):=by
 have HR: ∀W,Below w.heap.size w W→Calls Try.prog 33 #[hpA h src] W fun e w'=>e= .returned (.bool (ZD h))∧Below W.heap.size W w':=fun W hb=>
  YD (w:=W) (G:=G) (x:=src) hh (fun b hb'=>Z8z (hG b hb') hb.size) (fun j hj=>(hs j hj).keep (fun b hb'=>hb.block b (hG b hb')) fun _ q=>q)
 rw[hr]at HR;have HRT:=Z8r HR;obtain⟨a4,q4,e4⟩:=ZI (hs 4 (by omega));have hrl:=hh.roots;obtain⟨W0,hW0,hz0,st0⟩:=zY w (.cells (nowA h src) 25) (.cells (actA k rr s i z pp v) 64);obtain⟨p0,s0,_,_⟩:=st0.F;have ST0:=Z8r st0;have hkv:QY k rr s i z pp v= .iface (Xw k) (.agg (actA k rr s i z pp v)):=by unfold QY;rw[if_pos hk]
 have HKI:=Z8r (fun W=>RE W k rr s i z pp v);have HNM:=Z8r (fun W=>KM W k rr s i z pp v hk);rw[hkv]at HKI HNM;have HRR:=HRT.out W0 ST0.out.bel;unfold nowA actA at hW0;unfold nowA at p0;unfold actA at s0;unfold hpA at HRR;rw[show lsH h 4=h.roots from rfl]at e4;rw[e4]at p0 hW0 HRR;have HR0:=Z8r HRR;have E4:=Z8r e4;have HIN:=Z8r hin;have HF:=Z8r hF;have HE:=Z8r hE;have hcf:=Kl hcF;clear HR hs st0 hkv hin HRR hF hcF hE;unfold hpA;rw[e4];clear e4;unfold actA;have hneq: ∀(W:World) (t:TypeId) (u:Value),(binOp .eql 94 (.iface t u) .nilIface).run Try.prog W= .ok (.bool false) W:=fun W t u=>by rfl
 have hLb:(XQ k rr s).length≤2:=by
  unfold XQ;split
  ·simp
  ·split<;>simp
 obtain⟨L,hL⟩: ∃L,(XQ k rr s).length=L:=⟨_,rfl⟩;rw[hL]at hLb;go_enter Try.func34,Try.ntmps34
 go_wp2_with (first
  | (go_at_call 33;go_loud (refine HR0.out.mono ?_;rintro e w1 ⟨rfl,hb1⟩;have st1:=ST0.out.below hb1;obtain⟨p1,s1,_,_⟩:=st1.F;unfold nowA at p1;unfold actA at s1;rw[E4.out]at p1;have ST1:=Z8r st1;clear hb1 st1 p0 s0))
  | (go_at_call 53;go_loud (refine(HKI.out w1).mono ?_;rintro e w2 ⟨rfl,hb2⟩;have st2:=ST1.out.below hb2;obtain⟨p2,s2,_,_⟩:=st2.F;unfold nowA at p2;rw[E4.out]at p2;have ST2:=Z8r st2;clear hb2 st2 p1 s1))
  | (go_at_call 54;go_loud (refine(HNM.out w2).mono ?_;rintro e w3 ⟨gn,rfl,hb3,hgn,hcell⟩;rw[hL];have st3:=ST2.out.below hb3;obtain⟨p3,s3,r3,rz3⟩:=st3.F;unfold nowA at p3;unfold Zf at r3;rw[E4.out]at p3;have ST3:=Z8r st3;have HC:=Z8r hcell;clear hb3 st3 p2 s2 hcell)))
 go_loop [4,24] (fun v4 i=>v4= .int .u64 0∧ ∃k:Nat,i= .int .i64 k∧k≤L) (fun _ i=>L- (intOf i).toNat)
 case atStart=>exact⟨rfl,0,rfl,by omega⟩
 case round=>
  obtain⟨rfl,i',rfl,hi'⟩:=hrel;by_cases hlt:i'<L
  ·obtain⟨u,hu⟩: ∃u,(XQ k rr s)[i']? =some u:=⟨_,Z8n (by omega)⟩;have hcu:=HC.out i' u hu;obtain⟨h1,h2⟩:=HIN.out u (Z8x hu);have h1':(u<0)=False:=Zan (by omega);have h2':(u≥(h.roots.length:Int))=False:=Zan (by omega);have h3':((h.roots.length:Int)≤u)=False:=Zan (by omega);have hlt':((i':Int) < (L:Int))=True:=ZaJ (by omega);have HU:=Z8r (And.intro hu (And.intro hL hlt));clear hu hL h1 h2 hlt;go_wp2
   go_round
   case rel=>exact⟨rfl,i'+1,by go_num,(by have h9:i'<L:=HU.out.2.2;omega)⟩
   case measure=>have h9:i'<L:=HU.out.2.2;simp[intOf];omega
  ·obtain rfl:i'=L:=by omega
   have hFc:=HF.out w3 ST3.out.bel;unfold hpA at hFc;rw[show src 4=_ from E4.out]at hFc;have HFC:=Z8r hFc;clear hFc
   go_upto_region 13 with (first
    | (refine HFC.out.mono ?_;rintro e w4 ⟨y,rfl,hb4,hrd⟩;dsimp only at hrd;obtain⟨b0,k0,f0⟩:=ZI (hrd 0 (by omega));obtain⟨b1,k1,f1⟩:=ZI (hrd 1 (by omega));obtain⟨b2,k2,f2⟩:=ZI (hrd 2 (by omega));obtain⟨b3,k3,f3⟩:=ZI (hrd 3 (by omega));obtain⟨b4,k4,f4⟩:=ZI (hrd 4 (by omega));dsimp only;unfold hpA;rw[f0,f1,f2,f3,f4];have st4:=ST3.out.below hb4;obtain⟨_,_,r4,rz4⟩:=st4.F;unfold Zf at r4;have ST4:=Z8r st4;have HB4:=Z8r (And.intro hb4 hrd);clear hb4 hrd st4 p3 s3 r3 rz3))
   obtain⟨W5,hW5⟩: ∃W5,WP w4 (w.heap.size+1+1) (.int .u64 g.base) (.int .i64 g.cap) (.int .i64 g.to) (.bool g.cycle) (.int .i64 g.scan) (.slice b0 (lsH g 0).length k0) (.slice b1 (lsH g 1).length k1) (.slice b2 (lsH g 2).length k2) (.slice b3 (lsH g 3).length k3) (.slice b4 (lsH g 4).length k4)=W5:=⟨_,rfl⟩;have hz5:W5.heap.size=w4.heap.size:=by rw[←hW5];exact Vz _ _ _ _ _ _ _ _ _ _ _ _
   unfold WP at hW5;rw[hW5]
   have n5:W5.heap[w.heap.size+2]? =some (.cells (nowA g y) 25 (0,0)):=by
    rw[←hW5];unfold nowA;rw[f0,f1,f2,f3,f4];exact Wq ST4.out.b2 _ _ _ _ _ _ _ _ _ _
   have bel5:Below w.heap.size w W5:=by rw[←hW5];exact Zh ST4.out.bel (by omega) _ _ _ _ _ _ _ _ _ _
   have h5:W5.heap[w.heap.size]? =some (.cells (nowA h src) 25 (0,0)):=by rw[←hW5];exact(Zt (by omega) _ _ _ _ _ _ _ _ _ _).trans ST4.out.b0
   have rd5: ∀j,j<5→Rd W5 (fun c=>G c∨(w.heap.size+3≤c∧c<W5.heap.size)) (.sl ((lsH g j).map vu)) (y j):=fun j hj=>by
    have hs4:=HB4.out.1.size;have hs3:=Za ST3.out.b2;exact((HB4.out.2 j hj).keep (fun b hb=>by rw[←hW5];exact Zt (by rcases hb with q|q;have:=hG b q;omega;omega) _ _ _ _ _ _ _ _ _ _) fun _ q=>q).mono fun b q=>q.imp (fun q=>q) fun q=>⟨by omega,by omega⟩
   have y5: ∀j,W5.cell? ⟨w.heap.size+1+1,j,none⟩=(#[.int .u64 g.base,.int .i64 g.cap,.int .i64 g.to,.bool g.cycle,.int .i64 g.scan,.slice b0 (lsH g 0).length k0,.slice b1 (lsH g 1).length k1,.slice b2 (lsH g 2).length k2,.slice b3 (lsH g 3).length k3,.slice b4 (lsH g 4).length k4]:Array Value)[j]? :=fun j=>by
    have:=Z8s _ _ j _ _ _ n5;unfold nowA at this;rw[f0,f1,f2,f3,f4]at this;exact this
   have fz5: ∀j,W5.frozen? ⟨w.heap.size+1+1,j,none⟩=false:=fun j=>Zk n5;have H5:=Z8r (And.intro n5 (And.intro bel5 (And.intro h5 rd5)));have F:=Z8r (And.intro f0 (And.intro f1 (And.intro f2 (And.intro f3 f4))));clear n5 bel5 h5 rd5 r4 rz4 hW5 hz5 f0 f1 f2 f3 f4;rcases HE.out with ⟨hne,rfl,rfl⟩ | ⟨rfl,rfl,hta⟩ | ⟨rfl,hta,Fo,hcb,hmo,hto⟩
   ·have hne':=Zan hne;go_wp2;have z13:=UB H5.out.1 (.int .u64 0) (.int .i64 0) (.int .i64 0) (.bool false) (.int .i64 0) (.slice none 0 0) (.slice none 0 0) (.slice none 0 0) (.slice none 0 0) (.slice none 0 0);unfold WP at z13;have z14:=fun j=>Z8s _ _ j _ _ _ z13;refine Z8K (v:= .tuple #[.int .u64 0,.agg Zf,.int .i64 er]) ?_ rfl ?_
    ·simp[results,Try.results34,go_sem,z14,Zf]
    ·exact LU hG (x:=fun _=> .slice none 0 0) H5.out.2.1 (UU _ _) _ _ _ _ _ _ _ _ _ _ _ _
   ·go_upto_region 18 with fail;go_region
    all_goals
     go_wp2
     try simp only[Exit.inBlock,Exit.then]
     have z13:=UB H5.out.1 (.int .u64 g.base) (.int .i64 g.cap) (.int .i64 g.to) (.bool g.cycle) (.int .i64 g.scan) (.slice b0 (lsH g 0).length k0) (.slice b1 (lsH g 1).length k1) (.slice b2 (lsH g 2).length k2) (.slice b3 (lsH g 3).length k3) (.slice b4 (lsH g 4).length k4);unfold WP at z13;have z14:=fun j=>Z8s _ _ j _ _ _ z13;refine Z8K (v:= .tuple #[.int .u64 0,hpA g y,.int .i64 0]) ?_ rfl ?_
     ·unfold hpA;rw[F.out.1,F.out.2.1,F.out.2.2.1,F.out.2.2.2.1,F.out.2.2.2.2];simp[results,Try.results34,go_sem,z14]
     ·exact(LU hG H5.out.2.1 H5.out.2.2.2 _ _ _ _ _ _ _ _ _ _ _ _).drew
   ·have hcf2:=Kl hcb;have ht5:=hto W5 H5.out.2.1;unfold hpA at ht5;rw[show src 4=_ from E4.out]at ht5;have p5:=fun j=>Z8s _ _ j _ _ _ H5.out.2.2.1;unfold nowA at p5;rw[E4.out]at p5;have HT5:=Z8r ht5;clear ht5 hto hcb
    go_upto_region 18 with (first
     | (refine HT5.out.mono ?_;rintro e w6 ⟨rfl,hb6⟩;have n6:=(hb6.block _ (Za H5.out.1)).trans H5.out.1;have y6:=fun j=>Z8s _ _ j _ _ _ n6;unfold nowA at y6;rw[F.out.1,F.out.2.1,F.out.2.2.1,F.out.2.2.2.1,F.out.2.2.2.2]at y6;have fz6: ∀j,w6.frozen? ⟨w.heap.size+1+1,j,none⟩=false:=fun j=>Zk n6;have rd6: ∀j,j<5→Rd w6 (fun c=>G c∨(w.heap.size+3≤c∧c<w6.heap.size)) (.sl ((lsH g j).map vu)) (y j):=fun j hj=>(((H5.out.2.2.2 j hj).keep (fun b hb=>hb6.block b (by have:=H5.out.2.1.size;rcases hb with q|q;have:=hG b q;omega;exact q.2)) fun _ q=>q).mono fun b q=>q.imp (fun q=>q) fun q=>⟨q.1,by have:=hb6.size;omega⟩);have H6:=Z8r (And.intro n6 (And.intro (H5.out.2.1.trans (hb6.mono H5.out.2.1.size)) rd6));clear n6 rd6 hb6 y5 fz5 p5))
    go_region
    all_goals
     go_wp2
     try simp only[Exit.inBlock,Exit.then]
     have z13:=UB H6.out.1 (.int .u64 g.base) (.int .i64 g.cap) (.int .i64 g.to) (.bool g.cycle) (.int .i64 g.scan) (.slice b0 (lsH g 0).length k0) (.slice b1 (lsH g 1).length k1) (.slice b2 (lsH g 2).length k2) (.slice b3 (lsH g 3).length k3) (.slice b4 (lsH g 4).length k4);unfold WP at z13;have z14:=fun j=>Z8s _ _ j _ _ _ z13;refine Z8K (v:= .tuple #[.int .u64 vv,hpA g y,.int .i64 0]) ?_ rfl ?_
     ·unfold hpA;rw[F.out.1,F.out.2.1,F.out.2.2.1,F.out.2.2.2.1,F.out.2.2.2.2];simp[results,Try.results34,go_sem,z14]
     ·exact(LU hG H6.out.2.1 H6.out.2.2 _ _ _ _ _ _ _ _ _ _ _ _).drew
end Vm
end
section
namespace Vm
open Go Go.Proofs Go.RowKit
set_option maxHeartbeats 1000000
set_option maxRecDepth 100000
theorem Qh{f:FuncId}(hcb:ZY Try.prog f=true){h:Hp}{y:V}(hy:UW y=true){r:Int×Hp×Int}
  (hc: ∀(w:World) (G:Nat→Prop) (src:Nat→Value),(∀b,G b→b<w.heap.size)→(∀j,j<5→Rd w G (.sl ((lsH h j).map vu)) (src j))→Calls Try.prog f #[hpA h src,R3 y] w (DoPost G w r)):
  VC Try.prog f false [hpV h,y] (.tup [vu r.1,hpV r.2.1,vi r.2.2]):=by
 refine⟨hcb,fun w G vs hG hsz hvs=> ?_⟩;have r0:=hvs 0 _ rfl;have r1:=QS hy (hvs 1 _ rfl)
 have he:vs= #[vs.getD 0 undef,vs.getD 1 undef]:=by
  have hs3:vs.size=2:=hsz;apply Zbh
  ·simp[hs3]
  ·intro i h1 h2;have hi:i<2:=by omega
   match i,hi with
   |0,_=>simp[Array.getD,hs3]
   |1,_=>simp[Array.getD,hs3]
 obtain⟨src,e0,hs⟩:=Jt r0;rw[he,e0,r1];refine(hc w G src hG hs).mono ?_;rintro e w' ⟨x,rfl,hb,hr⟩;refine⟨_,rfl,hb,.tup _ _ rfl ?_⟩;intro i y hy
 match i,hy with
 |0,hy=>cases hy;exact .int _ _
 |1,hy=>cases hy;exact Qr fun j hj=>(hr j hj).mono fun b hb=>by simpa using hb
 |2,hy=>cases hy;exact .int _ _
theorem Z1n{f:FuncId}(hcb:ZY Try.prog f=true){h:Hp}{y:V}(hy:UW y=true){r:Int×Hp×Int}{Q:Prop}
  (hc: ∀(w:World) (G:Nat→Prop) (src:Nat→Value),(∀b,G b→b<w.heap.size)→(∀j,j<5→Rd w G (.sl ((lsH h j).map vu)) (src j))→Calls Try.prog f #[hpA h src,R3 y] w (Q5 w r Q)):
  VC Try.prog f false [hpV h,y] (.tup [vu r.1,hpV r.2.1,vi r.2.2]):=by
 refine Qh hcb hy fun w G src hG hs=>(hc w G src hG hs).mono ?_;rintro e w' ⟨x,h1,hb,hr,_⟩;exact⟨x,h1,hb,fun j hj=>(hr j hj).mono fun b hb=> .inr hb⟩
theorem TF{h:Hp}(hh:h.ok){p:Pts}(r:Rt h p){n:Nat}{pt wd:Int}(hn:n≤255)(hpk:Xd n pt=(wd,0)): ∃q,Rt (Y5 h p n) q∧(Y5 h p n).ok∧VC Try.prog 32 false [hpV h,shV n pt] (.tup [vu (Wc h p q n wd).1,hpV (Wc h p q n wd).2.1,vi (Wc h p q n wd).2.2]):=by
 obtain⟨g8,hg8⟩: ∃g8,Y5 h p n=g8:=⟨_,rfl⟩
 have key: ∃q,Rt (Y5 h p n) q∧(Y5 h p n).ok:=by
  by_cases hc:h.cycle=false∧X9 h p (n+1:Nat)=false
  ·obtain⟨q,rq⟩:=qX r hc.1;have ht:h.to=0∨h.to=1:=(Zm.1 r.lay).2.2.2.2.1;obtain⟨q',sc⟩:=rq.scans (n+1);unfold Y5;rw[if_pos hc];exact⟨q',sc.rt,WD (zG hh ht) rq _⟩
  ·obtain⟨q',sc⟩:=r.scans (n+1);unfold Y5;rw[if_neg hc];exact⟨q',sc.rt,WD hh r _⟩
 obtain⟨q,rq,okq⟩:=key;refine⟨q,rq,okq,Z1n (by kernel_rfl) (y:=shV n pt) rfl (Q:=h.cycle=false∧X9 h p (n+1:Nat)=true) fun w G src hG hs=> ?_⟩;obtain⟨q',rq',_,hc⟩:=ST w G hG h hh src hs n pt wd hn hpk r;rw[rq.uniq rq']at hc;exact hc
theorem Z1S: ∀(n:Nat) (W:World) (x:Value),0<n→(method n (Xw 1) x "cromlech/mutator.do").run Try.prog W= .ok (144,x) W
 |n+1,W,x,_=>by kernel_rfl
theorem Z1J: ∀(n:Nat) (W:World) (x:Value),0<n→(method n (Xw 2) x "cromlech/mutator.do").run Try.prog W= .ok (145,x) W
 |n+1,W,x,_=>by kernel_rfl
theorem Z2l: ∀(n:Nat) (W:World) (x:Value),0<n→(method n (Xw 3) x "cromlech/mutator.do").run Try.prog W= .ok (148,x) W
 |n+1,W,x,_=>by kernel_rfl
theorem Z1h: ∀(n:Nat) (W:World) (x:Value),0<n→(method n (Xw 5) x "cromlech/mutator.do").run Try.prog W= .ok (151,x) W
 |n+1,W,x,_=>by kernel_rfl
theorem yH: ∀(n:Nat) (W:World) (x:Value),0<n→(method n (Xw 3) x "cromlech/mutator.told").run Try.prog W= .ok (149,x) W
 |n+1,W,x,_=>by kernel_rfl
theorem Qa: ∀ {l:List String},l≠ []→ ∃m,Instr.least l=some m
 | [],h=>absurd rfl h
 |_::_,_=>⟨_,rfl⟩
theorem L5(p:String→Bool)(f:String→String): ∀l:List String,l≠ []→ ∃m,(Instr.least (l.partition p).2<|>Instr.least ((l.partition p).1.map f))=some m
 | [],h=>absurd rfl h
 |x::r,_=>by
  rw[List.partition_eq_filter_filter];cases hc:p x with
  |true=>
   obtain⟨m,hm⟩:=Qa (l:=((x::r).filter p).map f) (by rw[ZbR hc];simp);dsimp only;rw[hm];cases Instr.least ((x::r).filter (not∘p))<;>simp
  |false=>
   obtain⟨m,hm⟩:=Qa (l:=(x::r).filter (not∘p)) (by rw[ZbR (by simp[hc])];simp);dsimp only;rw[hm];simp
theorem Km{want:Array (String×TypeId)}{got:Array Method}(h:(want.toList.filter fun(name,sig)=> !got.any fun m=>m.name==name&&m.sig==sig).isEmpty=false): ∃m,Instr.missingMethod want got=some m:=by
 unfold Instr.missingMethod
 exact L5 _ _ _ fun e=>by
  rw[ZaZ]at e;rw[e]at h;cases h
noncomputable def lacksTold (T:TypeId):Bool:=
 match Try.prog.underlying 98,Try.prog.info? T with
 |some (.interface want),some ti=> !(want.toList.filter fun(name,sig)=> !ti.methods.any fun m=>m.name==name&&m.sig==sig).isEmpty
 |_,_=>false
theorem Sg{T:TypeId}(h:lacksTold T=true)(W:World)(x:Value):(Instr.typeAssert (.iface T x) 94 98 true).run Try.prog W= .ok (.tuple #[.nilIface,.bool false]) W:=by
 unfold lacksTold at h;split at h
 ·rename_i want ti hu hi;obtain⟨m,hm⟩:=Km (want:=want) (got:=ti.methods) (by simpa using h);have hz:(zeroValue 98).run Try.prog W= .ok .nilIface W:=by kernel_rfl
  simp[Instr.typeAssert,Z8X hu,typeInfo,hi,hm,hz]
 ·cases h
theorem Z7i: ∀(W:World) (x:Value),(Instr.typeAssert (.iface (Xw 1) x) 94 98 true).run Try.prog W= .ok (.tuple #[.nilIface,.bool false]) W:=Sg (by kernel_rfl)
theorem Z7H: ∀(W:World) (x:Value),(Instr.typeAssert (.iface (Xw 2) x) 94 98 true).run Try.prog W= .ok (.tuple #[.nilIface,.bool false]) W:=Sg (by kernel_rfl)
theorem Z6W: ∀(W:World) (x:Value),(Instr.typeAssert (.iface (Xw 5) x) 94 98 true).run Try.prog W= .ok (.tuple #[.nilIface,.bool false]) W:=Sg (by kernel_rfl)
theorem Z7m: ∀(W:World) (x:Value),(Instr.typeAssert (.iface (Xw 3) x) 94 98 true).run Try.prog W= .ok (.tuple #[.iface (Xw 3) x,.bool true]) W:=fun _ _=>by kernel_rfl
end Vm
end
section
namespace Vm
open Go Go.Proofs Go.RowKit
set_option maxHeartbeats 2000000
set_option maxRecDepth 100000
theorem Lp{w:World}{G:Nat→Prop}{r:Hp×Int}(e:Ending)(w':World)(h:X5 w r e w'):Kb G w r e w':=by
 obtain⟨x,h1,h2,h3⟩:=h;exact⟨x,h1,h2,fun j hj=>(h3 j hj).mono fun b q=> .inr q⟩
theorem Z0W{h:Hp}(hh:h.ok)(hr:ZD h=true){k rr s i z pp v vv er:Int}{g:Hp}(hk:1≤k∧k≤7)(hin: ∀u∈XQ k rr s,0≤u∧u<h.roots.length)
  {F:FuncId} (hcF:ZY Try.prog F=true) (hM: ∀(n:Nat) (W:World) (x:Value),0<n→(method n (Xw k) x "cromlech/mutator.do").run Try.prog W= .ok (F,x) W)
  (hF: ∀(w:World) (G:Nat→Prop) (src:Nat→Value),(∀b,G b→b<w.heap.size)→(∀j,j<5→Rd w G (.sl ((lsH h j).map vu)) (src j))→Calls Try.prog F #[.agg (actA k rr s i z pp v),hpA h src] w (Kb G w (g,er)))
  (hE:(¬er=0∧vv=0∧g=Hp.zero)∨(er=0∧vv=0∧ ∀(W:World) (x:Value),(Instr.typeAssert (.iface (Xw k) x) 94 98 true).run Try.prog W= .ok (.tuple #[.nilIface,.bool false]) W)∨
   (er=0∧(∀(W:World) (x:Value),(Instr.typeAssert (.iface (Xw k) x) 94 98 true).run Try.prog W= .ok (.tuple #[.iface (Xw k) x,.bool true]) W)∧ ∃Fo,ZY Try.prog Fo=true∧(∀(n:Nat) (W:World) (x:Value),0<n→(method n (Xw k) x "cromlech/mutator.told").run Try.prog W= .ok (Fo,x) W)∧
    VC Try.prog Fo false [actV k rr s i z pp v,hpV h] (vu vv))):
  VC Try.prog 34 false [hpV h,actV k rr s i z pp v] (.tup [vu vv,hpV g,vi er]):=by
 refine Qh (by kernel_rfl) (y:=actV k rr s i z pp v) rfl (r:=(vv,g,er)) fun w G src hG hs=> ?_;have hs': ∀W,Below w.heap.size w W→ ∀j,j<5→Rd W G (.sl ((lsH h j).map vu)) (src j):=fun W hb j hj=>(hs j hj).keep (fun b hb'=>hb.block b (hG b hb')) fun _ q=>q;have hG': ∀W,Below w.heap.size w W→ ∀b,G b→b<W.heap.size:=fun W hb b hb'=>Z8z (hG b hb') hb.size;refine Z7v w G hG h hh src hs hr hk hin hcF hM (fun W hb=>hF W G src (hG' W hb) (hs' W hb)) ?_;rcases hE with h1|h1| ⟨h1,h2,Fo,h3,h4,h5⟩
 ·exact .inl h1
 ·exact .inr (.inl h1)
 ·refine .inr (.inr ⟨h1,h2,Fo,h3,h4,fun W hb=>Zap (h5.2 W G _ (hG' W hb) rfl ?_) ?_⟩)
  ·intro i y hy
   match i,hy with
   |0,hy=>cases hy;exact QW rfl
   |1,hy=>cases hy;exact Qr (hs' W hb)
  ·rintro e w' ⟨v,rfl,hb,hv⟩;exact⟨by rw[Ye hv],hb⟩
theorem Z1u{h:Hp}(hh:h.ok)(hr:ZD h=true){rr z pp v i w0:Int}{s:Nat}(hrt:h.roots[s]? =some w0)(hv:U64 v)(hi:Fit i){res:Hp×Int}
  (hO:(w0=0∧res=(Hp.zero,6))∨ ∃j a n m u,ObAt h w0 j a n m u∧((0≤i∧i< (n-m:Nat)∧res=(setL h j (a+1+m+i.toNat) v,0))∨(¬(0≤i∧i< (n-m:Nat))∧res=(Hp.zero,1)))):
  VC Try.prog 34 false [hpV h,actV 5 rr s i z pp v] (.tup [vu 0,hpV res.1,vi res.2]):=by
 obtain⟨p,r⟩:=Xb.1 hr;have hlt:=(Z8o.1 hrt).1;refine Z0W hh hr (by omega) (fun u hu=>by simp[XQ]at hu;omega) (F:=151) (by kernel_rfl) Z1h (fun w G src hG hs=>(jV w G hG h hh src hs r.lay hrt hv hi hO).mono Lp) ?_;rcases hO with ⟨_,rfl⟩ | ⟨j,a,n,m,u,O,⟨_,_,rfl⟩ | ⟨_,rfl⟩⟩
 ·exact .inl ⟨by decide,rfl,rfl⟩
 ·exact .inr (.inl ⟨rfl,rfl,Z6W⟩)
 ·exact .inl ⟨by decide,rfl,rfl⟩
theorem Ua{h:Hp}(hh:h.ok)(hr:ZD h=true){z pp v i w0:Int}{s r':Nat}(hrt:h.roots[s]? =some w0)(hrl:r'<h.roots.length)(hi:Fit i)
  {res:Hp×Int} (hO:(w0=0∧res=(Hp.zero,6))∨ ∃j a n m u,ObAt h w0 j a n m u∧((¬(0≤i∧i< (m:Nat))∧res=(Hp.zero,1))∨
   ∃(i':Nat) (pv v':Int) (g:Hp),i=i'∧i'<m∧(lsH h j)[a+1+i']? =some pv∧U64 pv∧fwd h pv=(v',g,0)∧g.ok∧g.roots=h.roots∧Z8 (layH g)=true∧ObAt g w0 j a n m u∧res=(setL (setL g j (a+1+i') v') 4 r' v',0))):
  VC Try.prog 34 false [hpV h,actV 2 r' s i z pp v] (.tup [vu 0,hpV res.1,vi res.2]):=by
 obtain⟨p,r⟩:=Xb.1 hr;have hlt:=(Z8o.1 hrt).1;refine Z0W hh hr (by omega) (fun u hu=>by simp[XQ]at hu;omega) (F:=145) (by kernel_rfl) Z1J (fun w G src hG hs=>(yC w G hG h hh src hs r.lay hrt hrl hi hO).mono Lp) ?_;rcases hO with ⟨_,rfl⟩ | ⟨j,a,n,m,u,O,⟨_,rfl⟩ | ⟨i',pv,v',g,_,_,_,_,_,_,_,_,_,rfl⟩⟩
 ·exact .inl ⟨by decide,rfl,rfl⟩
 ·exact .inl ⟨by decide,rfl,rfl⟩
 ·exact .inr (.inl ⟨rfl,rfl,Z7H⟩)
theorem Z1l{F:FuncId}{a:V}{h:Hp}{r:Hp×Int}(ha:UW a=true)(hv:VC Try.prog F false [a,hpV h] (.tup [hpV r.1,vi r.2]))(w:World)(G:Nat→Prop)(src:Nat→Value)(hG: ∀b,G b→b<w.heap.size)(hs: ∀j,j<5→Rd w G (.sl ((lsH h j).map vu)) (src j)):
  Calls Try.prog F #[R3 a,hpA h src] w (Kb G w r):=by
 refine Zap (hv.2 w G _ hG rfl ?_) ?_
 ·intro i y hy
  match i,hy with
  |0,hy=>cases hy;exact QW ha
  |1,hy=>cases hy;exact Qr hs
 ·rintro e w' ⟨v,rfl,hb,hv⟩;obtain⟨x',rfl,hx⟩:=Z2E hv;exact⟨x',rfl,hb,fun j hj=>(hx j hj).mono fun b hb'=>by simpa using hb'⟩
theorem zU{h:Hp}(hh:h.ok)(hr:ZD h=true){rr z pp v i w0 vv:Int}{s:Nat}(hrt:h.roots[s]? =some w0){res:Hp×Int}
  (hO:(w0=0∧res=(Hp.zero,6)∧vv=0)∨ ∃(i' j a n m:Nat) (u:Int),i=i'∧ObAt h w0 j a n m u∧i'<n-m∧(lsH h j)[a+1+m+i']? =some vv∧res=(h,0)):
  VC Try.prog 34 false [hpV h,actV 3 rr s i z pp v] (.tup [vu vv,hpV res.1,vi res.2]):=by
 obtain⟨p,r⟩:=Xb.1 hr;have hlt:=(Z8o.1 hrt).1;refine Z0W hh hr (by omega) (fun u hu=>by simp[XQ]at hu;omega) (F:=148) (by kernel_rfl) Z2l (fun w G src hG hs=>Z1l (a:=actV 3 rr s i z pp v) rfl (Z1U hh r.lay hrt ?_) w G src hG hs) ?_
 ·rcases hO with ⟨h1,h2,_⟩ | ⟨i',j,a,n,m,u,rfl,O,hi,_,h2⟩
  ·exact .inl ⟨h1,h2⟩
  ·exact .inr ⟨j,a,n,m,u,O,.inl ⟨by omega,by omega,h2⟩⟩
 ·rcases hO with ⟨_,rfl,rfl⟩ | ⟨i',j,a,n,m,u,rfl,O,hi,hy,rfl⟩
  ·exact .inl ⟨by decide,rfl,rfl⟩
  ·exact .inr (.inr ⟨rfl,Z7m,149,by kernel_rfl,yH,Z3s hh r.lay hrt O hy hi⟩)
theorem zX{h:Hp}(hh:h.ok){p q:Pts}(r:Rt h p){r' n:Nat}(hrl:r'<h.roots.length){s i pt wd v:Int}(hn:n≤255)(hpk:Xd n pt=(wd,0))(rq:Rt (Y5 h p n) q){res:Hp×Int}
  (hres:(X9 (Y5 h p n) q (n+1:Nat)=false∧res=(Hp.zero,7))∨(h.cycle=false∧X9 h p (n+1:Nat)=true∧res=(setL (Yu h wd n) 4 r' (refR (layH (Yu h wd n)) 2 0),0))):
  VC Try.prog 34 false [hpV h,actV 1 r' s i n pt v] (.tup [vu 0,hpV res.1,vi res.2]):=by
 refine Z0W hh r.right (by omega) (fun u hu=>by simp[XQ]at hu;omega) (F:=144) (by kernel_rfl) Z1S (fun w G src hG hs=> ?_) ?_
 ·refine Zap (Z0L w h src (v':=(Wc h p q n wd).1) (g:=(Wc h p q n wd).2.1) (er:=(Wc h p q n wd).2.2) (Q:=h.cycle=false∧X9 h p (n+1:Nat)=true) (res:=res) (fun W hb=> ?_) ?_) Lp
  ·obtain⟨q',rq',_,hc⟩:=ST W G (fun b hb'=>Z8z (hG b hb') hb.size) h hh src (fun j hj=>(hs j hj).keep (fun b hb'=>hb.block b (hG b hb')) fun _ q=>q) n pt wd hn hpk r;rw[rq.uniq rq']at hc;exact hc
  ·rcases hres with ⟨h1,h2⟩ | ⟨h1,h2,h3⟩
   ·left;unfold Wc;rw[h1,h2];exact⟨by simp,rfl⟩
   ·right
    have hg:Y5 h p n=h:=by
     unfold Y5;rw[if_neg (by rw[h2];simp),Xs h1]
    rw[hg]at rq;rw[r.uniq rq];unfold Wc;rw[hg,h2,h3];exact⟨rfl,⟨h1,rfl⟩,hrl,rfl⟩
 ·rcases hres with ⟨_,rfl⟩ | ⟨_,_,rfl⟩
  ·exact .inl ⟨by decide,rfl,rfl⟩
  ·exact .inr (.inl ⟨rfl,rfl,Z7i⟩)
end Vm
end
section
namespace Vm
open Go Go.Proofs
set_option maxRecDepth 100000
set_option maxHeartbeats 1000000
section
variable {h g:Hp} {p q:Pts}
theorem qY(g:Hp){j:Nat}(hj:j=0∨j=1)(i:Nat)(v k:Int):Z5 (setL g j i v) k=if k=(j:Int)+1 then(Z5 g k).set i v else Z5 g k:=by
 rcases hj with rfl|rfl
 ·show Z5 {g with low:=g.low.set i v} k=if k=1 then(Z5 g k).set i v else Z5 g k;by_cases h1:k=1
  ·subst h1;rfl
  ·rw[if_neg h1];unfold Z5;rw[if_neg h1,if_neg h1]
 ·show Z5 {g with high:=g.high.set i v} k=if k=2 then(Z5 g k).set i v else Z5 g k;by_cases h2:k=2
  ·subst h2;rfl
  ·rw[if_neg h2];by_cases h1:k=1
   ·subst h1;rfl
   ·unfold Z5;rw[if_neg h1,if_neg h2,if_neg h1,if_neg h2]
theorem Vw(g:Hp){j:Nat}(hj:j<5)(i:Nat)(v:Int):layH (setL g j i v)=layH g:=by
 have:j=0∨j=1∨j=2∨j=3∨j=4:=by omega
 rcases this with rfl|rfl|rfl|rfl|rfl<;>simp[setL,layH]
theorem Body.set_slot(b:Body g q){j:Nat}(hj:j=0∨j=1){o:Ob}(ho:o∈q.at ((j:Int)+1)){c:Nat}(hc:(c:Int) <o.ptrs){v:Int}(hv:Gos g q v 1 2):Body (setL g j (o.at_.toNat+1+c) v) q:=by
 obtain⟨i,hi⟩: ∃i,o.at_.toNat+1+c=i:=⟨_,rfl⟩;rw[hi];have hjj:1≤(j:Int)+1∧(j:Int)+1≤4:=by omega
 obtain⟨a,n,m,ea,en,em,hal,_,hmn⟩:=b.toTld.ob hjj ho;have hl:=Vw g (j:=j) (by omega) i v;obtain⟨_,_,_,hcy,hsc⟩:=Xe g j i v;have gos: ∀ {w i' j'},Gos (setL g j i v) q w i' j'↔Gos g q w i' j':=VN hl;have hpt:=qY g hj i v;have t1:=b.tiles _ hjj;rw[show decide (2< (j:Int)+1)=false by simp;omega]at t1;have hil:i< (Z5 g ((j:Int)+1)).length:=by omega
 have hword: ∀x∈q.at ((j:Int)+1),∀d:Nat,(d:Int)≤x.size→x.at_.toNat+d=i→x=o∧0<d:=by
  intro x hx d hd e;obtain⟨c',d1,d',ec,ed,ed',_⟩:=b.toTld.ob hjj hx;rcases t1.apart x hx o ho with e1|e1|e1
  ·subst e1;exact⟨rfl,by omega⟩
  ·omega
  ·omega
 refine⟨⟨by rw[hl];exact b.lay,fun k hk=> ?_⟩,by rw[hl];exact b.gone,fun k hk x hx hg d hd w hw=> ?_,?_⟩
 ·rw[hpt];by_cases k1:k=(j:Int)+1
  ·subst k1;rw[if_pos rfl,show decide (2< (j:Int)+1)=false by simp;omega];refine t1.congr (by simp) fun x hx=> ?_;have hst:=(t1.stands x hx).1;have hsh:=Z4.1 hst.shape;obtain⟨c',d1,d',ec,ed,ed',hcl,_⟩:=b.toTld.ob hjj hx;have hg:=t1.no_gone x hx
   have h0:((Z5 g ((j:Int)+1)).set i v)[x.at_.toNat]? =(Z5 g ((j:Int)+1))[x.at_.toNat]? :=by
    refine Z96 fun e=> ?_;have:=(hword x hx 0 (by omega) (by omega)).2;omega
   refine⟨hst.nat,hst.shape,by simpa using hst.fits,Yq fun d w hd=>⟨fun h=>(by rw[hg]at h;cases h),fun hp=> ?_⟩,by rw[h0];exact hst.word⟩
   have hlt:d<x.size.toNat:=by
    have:=(Z8o.1 hd).1;simp at this;omega
   rw[Z9b hlt,Z8N]at hd;by_cases e:x.at_.toNat+1+d=i
   ·rw[e,Z9u hil]at hd;cases hd;exact JV b.toTld hv
   ·rw[Z96 (fun h=>e h.symm)]at hd;refine(Xq hst.slots d w ?_).2 hp;rw[Z9b hlt,Z8N];exact hd
  ·rw[if_neg k1];exact b.tiles k hk
 ·have pat: ∀ {u},X0 g q k (x.at_.toNat+1+d) u→X0 (setL g j i v) q k (x.at_.toNat+1+d) u:=fun {u} hu=>(jj hl hsc).2 hu;rw[hpt]at hw;by_cases k1:k=(j:Int)+1
  ·rw[if_pos k1]at hw;by_cases e:x.at_.toNat+1+d=i
   ·subst k1;rw[e,Z9u hil]at hw;cases hw;refine pat ?_;unfold X0;rw[if_neg (by omega)];split
    ·exact .inl hv
    ·exact hv
   ·rw[Z96 (fun h=>e h.symm)]at hw;exact pat (b.ptr k hk x hx hg d hd w hw)
  ·rw[if_neg k1]at hw;exact pat (b.ptr k hk x hx hg d hd w hw)
 ·have hr:=b.room;have e1:(setL g j i v).low.length=g.low.length:=by have:=Z9U Ly.low hl;simp only[layH]at this;omega
  have e2:(setL g j i v).high.length=g.high.length:=by have:=Z9U Ly.high hl;simp only[layH]at this;omega
  have e3:(setL g j i v).cap=g.cap:=Z9U Ly.cap hl;rw[e1,e2,e3];exact hr
end
end Vm
end
section
namespace Vm
open Go Go.Proofs
set_option maxRecDepth 100000
set_option maxHeartbeats 1000000
section
variable {h g:Hp} {p q:Pts}
theorem SG(h:Hp){j:Nat}(hj:j=0∨j=1):lsH h j=Z5 h ((j:Int)+1):=by rcases hj with rfl|rfl<;>rfl
theorem Z7s(t:Tld h p){k:Int}(hk:k=1∨k=2){o:Ob}(ho:o∈p.at k): ∃j a n m u,(j=0∨j=1)∧k=(j:Nat)+1∧o.at_=(a:Nat)∧o.size=(n:Nat)∧o.ptrs=(m:Nat)∧ObAt h (refR (layH h) k o.at_) j a n m u:=by
 have hk4:1≤k∧k≤4:=by omega
 obtain⟨a,n,m,ea,en,em,hal,_,hmn⟩:=t.ob hk4 ho;have t1:=t.tiles k hk4;rw[show decide (2<k)=false by simp;omega]at t1;obtain⟨w,h1,h2⟩:=(t1.stands o ho).1.word;rw[t1.no_gone o ho,if_neg (by simp)]at h2
 obtain⟨j,hj,hjk⟩: ∃j:Nat,(j=0∨j=1)∧k=(j:Int)+1:=by
  rcases hk with rfl|rfl
  ·exact⟨0,.inl rfl,rfl⟩
  ·exact⟨1,.inr rfl,rfl⟩
 have hrng:=Zv t.lay k;have hsz:=Ym (h:=h) hk4;refine⟨j,a,n,m,w,hj,hjk,ea,en,em,⟨hj,by rw[ea,hjk],?_,?_,?_,hmn,?_⟩⟩
 ·unfold refR U64;rw[ea];omega
 ·rw[SG h hj,←hjk];rw[ea]at h1;exact h1
 ·rw[h2.2.1,en,em]
 ·rw[SG h hj,←hjk];omega
theorem Z1e(r:Rt h p){k:Int}(hk:k=1∨k=2){o:Ob}(ho:o∈p.at k){c:Nat}(hc:(c:Int) <o.ptrs){pv:Int}(hpv:(Z5 h k)[o.at_.toNat+1+c]? =some pv):
  ∃v g q,fwd h pv=(v,g,0)∧Body g q∧(h.cycle=true→Once g q)∧(h.cycle=false→g=h∧q=p)∧Ext h p g q∧Gos g q v 1 2:=by
 have hk4:1≤k∧k≤4:=by omega
 have t1:=r.tiles k hk4;rw[show decide (2<k)=false by simp;omega]at t1;have hp:=r.ptr k hk4 o ho (t1.no_gone o ho) c hc pv hpv;have hil:=(Z8o.1 hpv).1;unfold X0 at hp;rw[if_neg (by omega)]at hp;cases hcy:h.cycle with
 |true=>
  have hgw:Gos h p pv 1 2∨Gos h p pv 3 4:=by
   split at hp
   ·exact hp
   ·exact .inl hp
  obtain⟨v,g,q,f⟩:=r.toBody.forward (r.once hcy) r.scanL hgw;exact⟨v,g,q,f.fwd,f.body,fun _=>f.once,fun h=>(by cases h),f.ext,f.tgo⟩
 |false=>
  have hs:=(r.rest hcy).1;rw[if_neg (by rintro⟨rfl,h2⟩;simp only[YQ]at hil;omega)]at hp;refine⟨pv,h,p,?_,r.toBody,fun h=>(by cases h),fun _=>⟨rfl,rfl⟩,.refl h p,hp⟩;rcases hp with rfl| ⟨k',o',hk',ho',rfl⟩
  ·exact TS r.lay
  ·obtain⟨a,n,m,ea,en,em,hal,_⟩:=r.toTld.ob (k:=k') (by omega) ho';exact fwd_here r.lay (by omega) (by rw[ea];omega)
theorem Z3e(e:Ext h p g q){k:Int}(hk:k=1∨k=2){o:Ob}(ho:o∈p.at k):o∈q.at k:=by
 rcases hk with rfl|rfl
 ·obtain⟨r,hr⟩:=e.obsL;show o∈q.low;rw[hr];exact Z9A _ ho
 ·show o∈q.high;rw[e.obsH];exact ho
theorem Z2o(e:Ext h p g q){k:Int}(hk:k=1∨k=2){i:Nat}(hi:i< (Z5 h k).length):(Z5 g k)[i]? =(Z5 h k)[i]? :=by
 rcases hk with rfl|rfl
 ·obtain⟨ws,hw⟩:=e.low;show g.low[i]? =h.low[i]?;rw[hw];exact Z8G hi
 ·show g.high[i]? =h.high[i]?;rw[e.high]
theorem jZ(r:Rt h p)(b:Body g q)(on:h.cycle=true→Once g q)(hr:h.cycle=false→g=h∧q=p)(e:Ext h p g q){v:Int}(hv:Gos g q v 1 2){j:Nat}(hj:j=0∨j=1){o:Ob}(ho:o∈p.at ((j:Int)+1)){c:Nat}(hc:(c:Int) <o.ptrs)(r':Nat):
  Rt (setL (setL g j (o.at_.toNat+1+c) v) 4 r' v) q:=by
 have hk:(j:Int)+1=1∨(j:Int)+1=2:=by omega
 have b1:=b.set_slot hj (Z3e e hk ho) hc hv;obtain⟨i,hi⟩: ∃i,o.at_.toNat+1+c=i:=⟨_,rfl⟩;rw[hi]at b1⊢;obtain⟨n1,n2,n3,n4,n5⟩:=Xe g j i v;have hl:=Vw g (j:=j) (by omega) i v;have e1:(setL g j i v).low.length=g.low.length:=by have:=Z9U Ly.low hl;simp only[layH]at this;omega
 have e3:(setL g j i v).old.length=g.old.length:=by have:=Z9U Ly.old hl;simp only[layH]at this;omega
 have e4:(setL g j i v).far.length=g.far.length:=by have:=Z9U Ly.far hl;simp only[layH]at this;omega
 have er:(setL g j i v).roots=g.roots:=by rcases hj with rfl|rfl<;>rfl
 have b2:=b1.roots (g.roots.set r' v)
 have eq:setL (setL g j i v) 4 r' v= {setL g j i v with roots:=g.roots.set r' v}:=by
  show {setL g j i v with roots:=(setL g j i v).roots.set r' v}=_;rw[er]
 rw[eq];have hl2:layH {setL g j i v with roots:=g.roots.set r' v}=layH g:=hl;have hsl:=r.scanL;have hlow:h.low.length≤g.low.length:=by obtain⟨ws,hw⟩:=e.low;rw[hw,Z8W];omega
 refine⟨b2,?_,?_,?_,fun hc=> ?_,fun hc=> ?_,fun hc o ho=> ?_,fun w hw=> ?_⟩
 ·show(g.roots.set r' v).length≤16;rw[Z9y,e.roots];exact r.nroots
 ·show 0≤(setL g j i v).scan;rw[n5,e.scan];exact r.scan0
 ·show(setL g j i v).scan≤((setL g j i v).low.length:Nat);rw[n5,e.scan,e1];omega
 ·have hc':h.cycle=true:=by rw[←e.cycle,←n4];exact hc
  have:=r.cyc hc';show(setL g j i v).scan< ((setL g j i v).low.length:Nat);rw[n5,e.scan,e1];omega
 ·have hc':h.cycle=false:=by rw[←e.cycle,←n4];exact hc
  obtain⟨h1,h2,h3⟩:=r.rest hc';obtain⟨rfl,rfl⟩:=hr hc';refine⟨?_,?_,?_⟩
  ·show(setL g j i v).scan=((setL g j i v).low.length:Nat);rw[n5,e1];exact h1
  ·show(setL g j i v).old= [];exact Z95 (by rw[e3,h2];rfl)
  ·show(setL g j i v).far= [];exact Z95 (by rw[e4,h3];rfl)
 ·have hc':h.cycle=true:=by rw[←e.cycle,←n4];exact hc
  rw[hl2];exact on hc' o ho
 ·refine(VN hl2).2 ?_;have hw:w∈g.roots.set r' v:=hw;rcases Z9r hw with hw|rfl
  ·exact e.gos (by omega) (by omega) (r.roots w (by rw[←e.roots];exact hw))
  ·exact hv
end
end Vm
end
section
namespace Vm
open Go Go.Proofs Go.RowKit
set_option maxHeartbeats 4000000
set_option maxRecDepth 100000
theorem Z3d(w:World)(G:Nat→Prop)(hG: ∀b,G b→b<w.heap.size)(h:Hp)(hh:h.ok)(src:Nat→Value)(hs: ∀j,j<5→Rd w G (.sl ((lsH h j).map vu)) (src j))(hr:ZD h=true){k rr s i z pp v:Int}(hk: ¬(1≤k∧k≤7)):
  Calls Try.prog 34 #[hpA h src,.agg (actA k rr s i z pp v)] w (DoPost G w (0,Hp.zero,1)):=by
 have HR: ∀W,Below w.heap.size w W→Calls Try.prog 33 #[hpA h src] W fun e w'=>e= .returned (.bool (ZD h))∧Below W.heap.size W w':=fun W hb=>
  YD (w:=W) (G:=G) (x:=src) hh (fun b hb'=>Z8z (hG b hb') hb.size) (fun j hj=>(hs j hj).keep (fun b hb'=>hb.block b (hG b hb')) fun _ q=>q)
 rw[hr]at HR;obtain⟨W0,hW0,hz0,st0⟩:=zY w (.cells (nowA h src) 25) (.cells (actA k rr s i z pp v) 64);obtain⟨p0,s0,_,_⟩:=st0.F;have ST0:=Z8r st0;have hkv:QY k rr s i z pp v= .nilIface:=by unfold QY;rw[if_neg hk]
 have HKI:=Z8r (fun W=>RE W k rr s i z pp v);rw[hkv]at HKI;have HRR:=HR W0 ST0.out.bel;unfold nowA actA at hW0;unfold nowA at p0;unfold actA at s0;unfold hpA at HRR;have HR0:=Z8r HRR;clear HR hs st0 hkv HRR;unfold hpA actA;have hneq: ∀(W:World),(binOp .eql 94 .nilIface .nilIface).run Try.prog W= .ok (.bool true) W:=fun W=>by rfl
 go_enter Try.func34,Try.ntmps34
 go_wp2_with (first
  | (go_at_call 33;go_loud (refine HR0.out.mono ?_;rintro e w1 ⟨rfl,hb1⟩;have st1:=ST0.out.below hb1;obtain⟨p1,s1,_,_⟩:=st1.F;unfold nowA at p1;unfold actA at s1;have ST1:=Z8r st1;clear hb1 st1 p0 s0))
  | (go_at_call 53;go_loud (refine(HKI.out w1).mono ?_;rintro e w2 ⟨rfl,hb2⟩;have st2:=ST1.out.below hb2;obtain⟨_,_,r2,rz2⟩:=st2.F;unfold Zf at r2;have ST2:=Z8r st2;clear hb2 st2 p1 s1)))
 have z13:=Zj ST2.out.b2 (.int .u64 0) (.int .i64 0) (.int .i64 0) (.bool false) (.int .i64 0) (.slice none 0 0) (.slice none 0 0) (.slice none 0 0) (.slice none 0 0) (.slice none 0 0);refine Z8K (v:= .tuple #[.int .u64 0,.agg Zf,.int .i64 1]) ?_ rfl ?_
 ·simp[results,Try.results34,go_sem,z13,Zf]
 ·exact LU hG (x:=fun _=> .slice none 0 0) ST2.out.bel (UU _ _) _ _ _ _ _ _ _ _ _ _ _ _
theorem Z0K{h:Hp}(hh:h.ok)(hr:ZD h=true){k rr s i z pp v:Int}(hk: ¬(1≤k∧k≤7)):VC Try.prog 34 false [hpV h,actV k rr s i z pp v] (.tup [vu 0,hpV Hp.zero,vi 1]):=
 Qh (by kernel_rfl) (y:=actV k rr s i z pp v) rfl (r:=(0,Hp.zero,1)) fun w G src hG hs=>Z3d w G hG h hh src hs hr hk
def h16:Hp:=⟨10,5,0,false,0,[],[],[],[],[0]⟩
def g16:Hp:=⟨10,5,0,false,0,[],[131076,0,0],[],[],[25]⟩
def k16:Hp:=⟨10,5,0,false,0,[],[131076,0,9],[],[],[25]⟩
theorem RV:h16.ok:=by refine⟨?_,?_,?_,?_,?_,?_,?_,?_,?_,?_,?_,?_,?_,?_⟩<;>simp[h16,U64,Fit]
theorem yt:g16.ok:=by refine⟨?_,?_,?_,?_,?_,?_,?_,?_,?_,?_,?_,?_,?_,?_⟩<;>simp[g16,U64,Fit]
theorem Z5o:k16.ok:=by refine⟨?_,?_,?_,?_,?_,?_,?_,?_,?_,?_,?_,?_,?_,?_⟩<;>simp[k16,U64,Fit]
theorem Xp{h:Hp}{p:Pts}(r:Rt h p)(n:Int):X9 h p n=decide ((h.low.length:Int)+h.high.length+Uh h+n≤h.cap):=by unfold X9;rw[r.wait]
theorem LH{h:Hp}{p:Pts}(r:Rt h p){n:Nat}(h1:h.cycle=false)(h2:decide ((h.low.length:Int)+h.high.length+Uh h+(n+1:Nat)≤h.cap)=true):Y5 h p n=h:=by
 unfold Y5;rw[if_neg (by rw[Xp r,h2];simp),Xs h1]
theorem Tk{h:Hp}{p:Pts}(r:Rt h p){n:Nat}(h1:h.cycle=false)(h2:decide ((h.low.length:Int)+h.high.length+Uh h+(n+1:Nat)≤h.cap)=false):Y5 h p n=ZG (Y3 h) (n+1):=by
 unfold Y5;rw[if_pos ⟨h1,by rw[Xp r,h2]⟩]
theorem Z3Y:ObAt g16 25 1 0 2 1 131076:=⟨.inr rfl,by decide+kernel,by unfold U64;omega,rfl,by decide+kernel,by omega,by decide⟩
theorem Z4s:ObAt k16 25 1 0 2 1 131076:=⟨.inr rfl,by decide+kernel,by unfold U64;omega,rfl,by decide+kernel,by omega,by decide⟩
theorem yW:VC Try.prog 30 false [] (.bool true):=by
 refine Z6 Try.func30 follows (by kernel_rfl) c30 rfl ?_;have y1:ZD h16=true:=by decide+kernel
 have y2:ZD g16=true:=by decide+kernel
 have y3:ZD k16=true:=by decide+kernel
 obtain⟨p1,r1⟩:=Xb.1 y1;obtain⟨p2,r2⟩:=Xb.1 y2;have e1:Xd (2:Nat) 1=(131076,0):=by decide+kernel
 have e2:Xd (2:Nat) 0=(4,0):=by decide+kernel
 have e3:Xd (4:Nat) 0=(8,0):=by decide+kernel
 have e4:Xd (5:Nat) 0=(10,0):=by decide+kernel
 have f1:decide ((h16.low.length:Int)+h16.high.length+Uh h16+(2+1:Nat)≤h16.cap)=true:=by decide+kernel
 have f2:decide ((g16.low.length:Int)+g16.high.length+Uh g16+(2+1:Nat)≤g16.cap)=false:=by decide+kernel
 have f3:decide ((h16.low.length:Int)+h16.high.length+Uh h16+(4+1:Nat)≤h16.cap)=true:=by decide+kernel
 have f4:decide ((h16.low.length:Int)+h16.high.length+Uh h16+(5+1:Nat)≤h16.cap)=false:=by decide+kernel
 have f5:decide (((ZG (Y3 g16) 3).low.length:Int)+(ZG (Y3 g16) 3).high.length+Uh (ZG (Y3 g16) 3)+(2+1:Nat)≤(ZG (Y3 g16) 3).cap)=false:=by decide+kernel
 have f6:decide (((ZG (Y3 h16) 6).low.length:Int)+(ZG (Y3 h16) 6).high.length+Uh (ZG (Y3 h16) 6)+(5+1:Nat)≤(ZG (Y3 h16) 6).cap)=false:=by decide+kernel
 obtain⟨q1,rq1,_,_⟩:=TF RV r1 (n:=2) (by omega) e1;obtain⟨q2,rq2,_,_⟩:=TF yt r2 (n:=2) (by omega) e2;obtain⟨q3,rq3,_,m7⟩:=TF RV r1 (n:=4) (by omega) e3;obtain⟨q4,rq4,_,m8⟩:=TF RV r1 (n:=5) (by omega) e4;have m1:=zX (v:=0) (s:=0) (i:=0) (r':=0) RV r1 (by decide) (by omega) e1 rq1 (.inr ⟨rfl,by rw[Xp r1,f1],rfl⟩);rw[show setL (Yu h16 131076 2) 4 0 (refR (layH (Yu h16 131076 2)) 2 0)=g16 by decide+kernel]at m1;have m2:=Z1u (rr:=0) (z:=0) (pp:=0) (v:=9) (i:=0) (s:=0) yt y2 rfl (by unfold U64;omega) ⟨by omega,by omega⟩ (.inr ⟨1,0,2,1,131076,Z3Y,.inl ⟨by omega,by omega,rfl⟩⟩);rw[show setL g16 1 (0+1+1+Int.toNat 0) 9=k16 by decide+kernel]at m2;have m3:=zU (rr:=0) (z:=0) (pp:=0) (v:=0) (i:=0) (s:=0) (vv:=9) (res:=(k16,0)) Z5o y3 rfl (.inr ⟨0,1,0,2,1,131076,rfl,Z4s,by omega,rfl,rfl⟩);have m4:=zX (v:=0) (s:=0) (i:=0) (r':=0) yt r2 (by decide) (by omega) e2 rq2 (.inl ⟨by rw[Xp rq2,Tk r2 rfl f2];exact f5,rfl⟩);have m5:=zU (rr:=0) (z:=0) (pp:=0) (v:=0) (i:=0) (s:=0) RV y1 rfl (.inl ⟨rfl,rfl,rfl⟩);have m6:=Z0K (rr:=0) (z:=0) (pp:=0) (v:=0) (i:=0) (s:=0) (k:=0) RV y1 (by omega)
 have g7:Wc h16 p1 q3 4 8=(21,Yu h16 8 4,0):=by
  unfold Wc;rw[LH r1 rfl f3]at rq3⊢;rw[Xp rq3,f3,if_pos rfl];rw[show refR (layH (Yu h16 8 4)) 2 0=21 by decide+kernel]
 have g8:Wc h16 p1 q4 5 10=(0,Hp.zero,7):=by
  unfold Wc;rw[Tk r1 rfl f4]at rq4⊢;rw[Xp rq4,f6];rfl
 rw[g7]at m7;rw[g8]at m8;have s1:=zq (a:=g16) (b:=g16) yt;simp only[hpV,h16,g16,k16,Hp.zero,actV,Z8Q,Z9I]at m1 m2 m3 m4 m5 m6 m7 m8 s1;simp[p30];refine Z0 m1 (by simp) ?_;simp;refine Z0 m2 (by simp) ?_;simp;refine Z0 m3 (by simp) ?_;simp;refine Z0 m4 (by simp) ?_;simp;refine Z0 m5 (by simp) ?_;simp;refine Z0 m6 (by simp) ?_;simp;refine Z0 m7 (by simp) ?_;simp;refine Z0 m8 (by simp) ?_;simp;refine Z0 s1 (by simp) ?_;simp
end Vm
end
section
namespace Vm
open Go
open Go.Proofs
set_option maxRecDepth 100000
def p9:Fn:=⟨23,[0,1,2,3,6,7,8,9,10,12,11,13,14,15,48,51,16,77,95,17,18,104,112],
pQ [pR [(3,pS 0 7),pV 4 pF],pC [pK 23 30 []] [pV 5 (.s 23)],pC [pK 24 14 [.mm 3 0 7]] [(6,pS 24 10)],pC [pK 25 31 [.s 1,pI 9]] [(7,.m [.fld (.ag [.one (.s 25),pI 0]) 0,.fld (.ag [.one (.s 25),pI 0]) 1])],pC [pK 26 31 [.s 2,.bin .add (.m 7 0) (pI 1)]] [(7,.m [.m 7 0,.one (.s 26)])],pR [pV 8 (.bin .add (pI 1) (.m 7 0))],pC [pK 27 32 [.mm 6 0 10,.mm 7 0 2]] [(9,pM (.sz (.ext (.s 27) 1) 10) 10),pV 10 (.ext (.s 27) 0),pV 11 (.ext (.s 27) 2)],pC [pK 28 29 [.mm 6 0 10,.s 8]] [(12,pM (.sz (.ext (.s 28) 0) 10) 10),pV 13 (.ext (.s 28) 1)],pQ [pR [pV 14 (.bin .neq (.s 13) (pI 0))]] (.cond (.s 14) (pQ [pR [pV 4 pF]] .ret) .skip),pQ [pR [pV 15 (.un .not (.m 6 3))]] (.cond (.s 15) (pQ [.reg ⟨[.lt 29 [] (.s 5),.lt 30 [(29,true)] (.bin .eql (.s 11) (pI 0))],[([(29,true),(30,false)],.bin .eql (.s 11) (pI 7)),([(29,true)],.ite (.s 30) pT (.bin .eql (.s 11) (pI 7)))],[pV 4 (.ite (.s 29) (.ite (.s 30) pT (.bin .eql (.s 11) (pI 7))) pF)]⟩] .ret) .skip),pC [pK 31 26 [.mm 12 0 10]] [pV 16 (.bin .leq (.bin .add (.bin .add (.bin .add (.len (.m 12 5)) (.len (.m 12 6))) (.s 31)) (.s 8)) (.m 12 1))],pQ [pR [pV 17 (.bin .neq (.s 11) (pI 0))]] (.cond (.s 17) (pQ [.reg ⟨[.lt 32 [] (.s 5),.lt 33 [] (.ite (.s 32) (.bin .eql (.s 11) (pI 7)) pF)],[([(32,true)],.bin .eql (.s 11) (pI 7)),([(33,true)],.un .not (.s 16))],[pV 4 (.ite (.s 33) (.un .not (.s 16)) pF)]⟩] .ret) .skip),pQ [pR [pV 18 (.bin .neq (.len (.m 9 6)) (.bin .add (.s 8) (.len (.m 12 6))))]] (.cond (.s 18) (pQ [pR [pV 4 pF]] .ret) .skip),pR [(19,pM (.mm 9 0 10) 10)],pR [(19,.m [.m 19 0,.m 19 1,.m 19 2,.m 19 3,.m 19 4,.m 19 5,.slcl (.m 9 6) (.s 8) 1,.m 19 7,.m 19 8,.m 19 9])],pQ [pR [pV 20 (pI 1)]] (.block 0 (.loop [0,1,2,3,4,5,6,7,8,9,10,11,12,13,14,15,16,17,18,19,20] (pQ [pQ [pR [pV 21 (.bin .lss (.s 20) (.s 8))]] (.cond (.s 21) .skip (.exit 0)),.block 1 (pQ [pR [pV 22 (.bin .neq (.fld (.idx (.m 9 6) (.s 20) 1) 0) (pU 0))]] (.cond (.s 22) (pQ [pR [pV 4 pF]] .ret) .skip))] (pR [pV 20 (.bin .add (.s 20) (pI 1))])))),pC [.lt 34 [] (.s 5),.lt 35 [] (.ite (.s 34) (.s 16) pF),.call 36 [(35,true)] (.id 19) false false [.mm 19 0 10,.mm 12 0 10],.lt 37 [] (.ite (.s 35) (.s 36) pF),.call 38 [(37,true)] (.id 33) false false [.mm 9 0 10]] [pV 4 (.ite (.s 37) (.s 38) pF)]] .ret,[(4,.v)]⟩
theorem c9:Zc Try.prog fresh sig [.fz,.fz,.fz] [] Try.f9=some p9:=by kernel_rfl
def p10:Fn:=⟨20,[0,1,2,3,4,8,9,10,11,12,13,15,14,16,46,91,94,18,17,19],
pQ [pR [(4,pS 0 7),pV 5 pF],pC [pK 20 30 []] [pV 6 (.s 20)],pC [pK 21 14 [.mm 4 0 7]] [(7,pS 21 10)],pC [pK 22 31 [.s 1,.len (.m 7 9)]] [pV 8 (.s 22)],pC [pK 23 31 [.s 2,.len (.m 7 9)]] [pV 9 (.s 23)],pC [pK 24 31 [.s 3,pI 4]] [pV 10 (.s 24)],pC [pK 25 34 [.mm 7 0 10,.ag [pI 2,.one (.s 8),.one (.s 9),.one (.s 10),pI 0,pI 0,pU 0]]] [(11,pM (.sz (.ext (.s 25) 1) 10) 10),pV 12 (.ext (.s 25) 0),pV 13 (.ext (.s 25) 2)],pQ [pR [pV 14 (.bin .neq (.s 13) (pI 0))]] (.cond (.s 14) (pQ [.reg ⟨[.lt 26 [] (.s 6),.lt 27 [(26,true)] (.bin .eql (.s 13) (pI 1))],[([(26,true),(27,false)],.bin .eql (.s 13) (pI 6)),([(26,true)],.ite (.s 27) pT (.bin .eql (.s 13) (pI 6)))],[pV 5 (.ite (.s 26) (.ite (.s 27) pT (.bin .eql (.s 13) (pI 6))) pF)]⟩] .ret) .skip),pQ [.reg ⟨[pK 28 33 [.mm 11 0 10],.lt 29 [] (.un .not (.s 28)),.lt 30 [] (.ite (.s 29) pT (.bin .neq (.len (.m 11 9)) (.len (.m 7 9)))),.lt 31 [] (.ite (.s 30) pT (.bin .lss (.len (.m 11 5)) (.len (.m 7 5)))),.call 32 [(31,false)] (.id 26) false false [.mm 7 0 10],.call 33 [(31,false)] (.id 26) false false [.mm 11 0 10]],[([(29,false)],.bin .neq (.len (.m 11 9)) (.len (.m 7 9))),([(30,false)],.bin .lss (.len (.m 11 5)) (.len (.m 7 5))),([(31,false)],.bin .neq (.bin .sub (.len (.m 11 5)) (.len (.m 7 5))) (.bin .sub (.s 32) (.s 33)))],[pV 15 (.ite (.s 31) pT (.bin .neq (.bin .sub (.len (.m 11 5)) (.len (.m 7 5))) (.bin .sub (.s 32) (.s 33))))]⟩] (.cond (.s 15) (pQ [pR [pV 5 pF]] .ret) .skip),pQ [pR [pV 16 (.bin .eql (.s 8) (.s 9))]] (.cond (.s 16) (pQ [pR [pV 5 (.s 6)]] .ret) .skip),pC [pK 34 34 [.mm 11 0 10,.ag [pI 2,.one (.s 8),.one (.s 9),.one (.s 10),pI 0,pI 0,pU 0]]] [(17,pM (.sz (.ext (.s 34) 1) 10) 10),pV 18 (.ext (.s 34) 0),pV 19 (.ext (.s 34) 2)],.reg ⟨[.lt 35 [] (.s 6),.lt 36 [] (.ite (.s 35) (.bin .eql (.s 19) (pI 0)) pF),.call 37 [(36,true)] (.id 19) false false [.mm 17 0 10,.mm 11 0 10]],[([(35,true)],.bin .eql (.s 19) (pI 0))],[pV 5 (.ite (.s 36) (.s 37) pF)]⟩] .ret,[(5,.v)]⟩
theorem c10:Zc Try.prog fresh sig [.fz,.fz,.fz,.fz] [] Try.f10=some p10:=by kernel_rfl
end Vm
end
section
namespace Vm
open Go Go.Proofs
set_option maxRecDepth 100000
set_option maxHeartbeats 2000000
structure Loaded (h:Hp) (p:Pts) (g':Hp) (q:Pts):Prop where
 ok:g'.ok
 rt:Rt g' q
 low:h.low.length≤g'.low.length
 room:(g'.low.length:Int)+Yi q=h.low.length+Yi p
 roots:g'.roots.length=h.roots.length
theorem LY{g:Hp}(hg:g.ok){j:Nat}(hj:j<5)(i:Nat){v:Int}(hv:U64 v):(setL g j i v).ok:=by
 have key: ∀(l:List Int),(∀w∈l,U64 w)→ ∀w∈l.set i v,U64 w:=fun l hl w hw=>by
  rcases Z9r hw with h|rfl
  ·exact hl w h
  ·exact hv
 have:j=0∨j=1∨j=2∨j=3∨j=4:=by omega
 rcases this with rfl|rfl|rfl|rfl|rfl
 ·exact⟨hg.base,hg.cap,hg.to,hg.scan,by simpa[setL]using hg.low,hg.high,hg.old,hg.far,hg.roots,key _ hg.lowW,hg.highW,hg.oldW,hg.farW,hg.rootsW⟩
 ·exact⟨hg.base,hg.cap,hg.to,hg.scan,hg.low,by simpa[setL]using hg.high,hg.old,hg.far,hg.roots,hg.lowW,key _ hg.highW,hg.oldW,hg.farW,hg.rootsW⟩
 ·exact⟨hg.base,hg.cap,hg.to,hg.scan,hg.low,hg.high,by simpa[setL]using hg.old,hg.far,hg.roots,hg.lowW,hg.highW,key _ hg.oldW,hg.farW,hg.rootsW⟩
 ·exact⟨hg.base,hg.cap,hg.to,hg.scan,hg.low,hg.high,hg.old,by simpa[setL]using hg.far,hg.roots,hg.lowW,hg.highW,hg.oldW,key _ hg.farW,hg.rootsW⟩
 ·exact⟨hg.base,hg.cap,hg.to,hg.scan,hg.low,hg.high,hg.old,hg.far,by simpa[setL]using hg.roots,hg.lowW,hg.highW,hg.oldW,hg.farW,key _ hg.rootsW⟩
theorem Z2f{h:Hp}{p:Pts}(hh:h.ok)(r:Rt h p){a b:Nat}(ha:a<h.roots.length)(hb:b<h.roots.length){k:Int}(hk:Fit k):
  ∃res:Hp×Int,VC Try.prog 34 false [hpV h,actV 2 a b k 0 0 0] (.tup [vu 0,hpV res.1,vi res.2])∧
   (res.2=1∨res.2=6∨(res.2=0∧ ∃q,Loaded h p res.1 q∧(a≠b→VC Try.prog 34 false [hpV res.1,actV 2 a b k 0 0 0] (.tup [vu 0,hpV res.1,vi 0])))):=by
 obtain⟨w0,hw0⟩: ∃w0,h.roots[b]? =some w0:=⟨_,Z8n hb⟩;rcases r.roots w0 (Z8x hw0)with h0| ⟨kk,o,hkk,ho,e0⟩
 ·exact⟨(Hp.zero,6),Ua hh r.right hw0 ha hk (.inl ⟨h0,rfl⟩),.inr (.inl rfl)⟩
 obtain⟨j,at_,n,m,u,hj,hkj,eat,en,em,O⟩:=Z7s r.toTld hkk ho;rw[←e0]at O;by_cases hin:0≤k∧k< (m:Nat)
 case neg=>exact⟨(Hp.zero,1),Ua hh r.right hw0 ha hk (.inr ⟨j,at_,n,m,u,O,.inl ⟨hin,rfl⟩⟩),.inl rfl⟩
 obtain⟨c,rfl⟩:=Z8H hin.1;have hcm:c<m:=by omega
 have hlen:=O.fits;have hmn:=O.mn;obtain⟨pv,hpv⟩: ∃pv,(lsH h j)[at_+1+c]? =some pv:=⟨_,Z8n (by omega)⟩
 have hpu:U64 pv:=by
  rcases hj with rfl|rfl
  ·exact hh.lowW pv (Z8x hpv)
  ·exact hh.highW pv (Z8x hpv)
 have hat:o.at_.toNat=at_:=by rw[eat];rfl
 subst hkj;obtain⟨v,g,q,hf,bg,on,hrest,ex,hv⟩:=Z1e r hkk ho (c:=c) (by omega) (pv:=pv) (by rw[hat,←SG h hj];exact hpv);have hfo:=Kk hh hpu;rw[hf]at hfo;have eL: ∀(i:Nat),i< (lsH h j).length→(lsH g j)[i]? =(lsH h j)[i]? :=fun i hi=>by rw[SG g hj,SG h hj]at*;exact Z2o ex hkk hi
 have eR:refR (layH g) ((j:Int)+1) at_=refR (layH h) ((j:Int)+1) at_:=ex.fst _ _ (by omega)
 have hgl:(lsH h j).length≤(lsH g j).length:=by
  rcases hj with rfl|rfl
  ·obtain⟨ws,hw⟩:=ex.low;show h.low.length≤g.low.length;rw[hw,Z8W];omega
  ·show h.high.length≤g.high.length;rw[ex.high];omega
 have Og:ObAt g w0 j at_ n m u:=⟨hj,by rw[eR];exact O.eq,O.u64,by rw[eL at_ (by omega)];exact O.at_,O.un,hmn,by omega⟩;have k1:=Ua (z:=0) (pp:=0) (v:=0) hh r.right hw0 ha hk (.inr ⟨j,at_,n,m,u,O,.inr ⟨c,pv,v,g,rfl,hcm,hpv,hpu,hf,hfo.1,ex.roots,bg.lay,Og,rfl⟩⟩);refine⟨_,k1,.inr (.inr ⟨rfl,q,?_,fun hab=> ?_⟩)⟩
 ·have rt:=jZ r bg on hrest ex hv hj ho (c:=c) (by omega) a;rw[hat]at rt
  have e1:(setL (setL g j (at_+1+c) v) 4 a v).low.length=g.low.length:=by
   have:=Z9U Ly.low ((Vw (setL g j (at_+1+c) v) (j:=4) (by omega) a v).trans (Vw g (j:=j) (by omega) (at_+1+c) v));simp only[layH]at this;omega
  have hlow:h.low.length≤g.low.length:=by obtain⟨ws,hw⟩:=ex.low;rw[hw,Z8W];omega
  refine⟨LY (j:=4) (LY (j:=j) hfo.1 (by omega) _ hfo.2) (by omega) _ hfo.2,rt,by rw[e1];exact hlow,by rw[e1];exact ex.room,?_⟩;show((setL g j (at_+1+c) v).roots.set a v).length=_;rw[Z9y,←ex.roots];rcases hj with rfl|rfl<;>rfl
 ·have rt:=jZ r bg on hrest ex hv hj ho (c:=c) (by omega) a;rw[hat]at rt;obtain⟨i,hi⟩: ∃i,at_+1+c=i:=⟨_,rfl⟩;rw[hi]at rt⊢;have okg:=LY (LY hfo.1 (j:=j) (by omega) i hfo.2) (j:=4) (by omega) a hfo.2;have hil:i< (lsH g j).length:=by omega
  have er:(setL g j i v).roots=g.roots:=by rcases hj with rfl|rfl<;>rfl
  have hr2:(setL (setL g j i v) 4 a v).roots[b]? =some w0:=by
   show((setL g j i v).roots.set a v)[b]? =some w0;rw[Z96 hab,er,ex.roots];exact hw0
  have hlj:lsH (setL (setL g j i v) 4 a v) j=(lsH g j).set i v:=by
   rw[TX _ a v (by omega) (by omega),if_neg (by omega),TX g i v (by omega) (by omega),if_pos rfl]
  have hll:=(Vw (setL g j i v) (j:=4) (by omega) a v).trans (Vw g (j:=j) (by omega) i v);have O2:ObAt (setL (setL g j i v) 4 a v) w0 j at_ n m u:=⟨hj,by rw[hll];exact Og.eq,O.u64,by rw[hlj,Z96 (by omega)];exact Og.at_,O.un,hmn,by rw[hlj,Z9y];exact Og.fits⟩;have hp2:(lsH (setL (setL g j i v) 4 a v) j)[at_+1+c]? =some v:=by rw[hi,hlj,Z9u hil]
  have hv2:Gos (setL (setL g j i v) 4 a v) q v 1 2:=(VN hll).2 hv
  have hf2:fwd (setL (setL g j i v) 4 a v) v=(v,setL (setL g j i v) 4 a v,0):=by
   rcases hv2 with h0| ⟨k',o',hk',ho',ev⟩
   ·subst h0;exact TS rt.lay
   ·obtain⟨a',n',m',ea,en',em',hal,_⟩:=rt.toTld.ob (k:=k') (by omega) ho';have:=fwd_here rt.lay (k:=k') (a:=o'.at_) (by omega) (by rw[ea];omega);rw[←ev]at this;exact this
  have same:setL (setL (setL (setL g j i v) 4 a v) j i v) 4 a v=setL (setL g j i v) 4 a v:=by
   rcases hj with rfl|rfl<;>simp[setL]
  have k2:=Ua (z:=0) (pp:=0) (v:=0) okg rt.right hr2 (r':=a) (by show a< ((setL g j i v).roots.set a v).length;rw[Z9y,er,ex.roots];exact ha) hk (.inr ⟨j,at_,n,m,u,O2,.inr ⟨c,v,v,_,rfl,hcm,hp2,hfo.2,hf2,okg,rfl,rt.lay,O2,rfl⟩⟩);rw[hi,same]at k2;exact k2
theorem Z1x(l:List Nd)(roots:List Int):0< (mkG l roots).roots.length:=by
 simp only[mkG];split
 ·simp
 ·rename_i h;cases roots with
  |nil=>simp at h
  |cons a t=>simp
theorem LR(x:Rw):0< (Ty x).roots.length:=by
 have key: ∀c,0< (ZW x (Zw x c)).roots.length:=fun c=>by
  simp only[ZW,Z8P];exact Z1x x.nodes x.roots
 unfold Ty yq;split
 ·exact key false
 ·exact key true
theorem JQ{x:Rw}(hx:x.ok){n m k:Int}(hn:Fit n)(hm:Fit m)(hk:Fit k):VC Try.prog 10 false [rwV x,vi n,vi m,vi k] (.bool true):=by
 refine Z6 Try.func10 follows (by kernel_rfl) c10 rfl ?_;simp[p10];refine Z0 yW (by simp) ?_;simp;have kh:=Z30 hx;unfold rwV at kh;refine Z0 kh (by simp) ?_;obtain⟨hh,hl,hro⟩:=Z19 hx;obtain⟨p,r⟩:=Xb.1 (KT hx);have hpos:=LR x;generalize Ty x=h at*;simp;refine Z0 (SQ hn (n:=h.roots.length) (by omega)) (by simp) ?_;have hp1:=X1 (c:=n) (n:=h.roots.length) (by omega);obtain⟨a,ha⟩:=Z8H hp1.1;rw[ha]at hp1;simp[ha];refine Z0 (SQ hm (n:=h.roots.length) (by omega)) (by simp) ?_;have hp2:=X1 (c:=m) (n:=h.roots.length) (by omega);obtain⟨b,hb⟩:=Z8H hp2.1;rw[hb]at hp2;simp[hb];refine Z0 (SQ hk (n:=4) (by omega)) (by simp) ?_;have hp3:=X1 (c:=k) (n:=4) (by omega);generalize pick k 4=c at*;simp;obtain⟨⟨g,e⟩,k1,hcase⟩:=Z2f hh r (a:=a) (b:=b) (by omega) (by omega) (k:=c) ⟨by omega,by omega⟩;simp only at k1 hcase;have kwh:=Z36 hh;rw[r.wait]at kwh;simp only[hpV,actV]at k1 kwh;refine Z0 k1 (by simp) ?_;rcases hcase with rfl|rfl| ⟨rfl,q,L,h2⟩
 ·simp
 ·simp
 have kr:=Z34 L.ok;rw[L.rt.right]at kr;have kwg:=Z36 L.ok;rw[L.rt.wait]at kwg;have sm:=zq (a:=g) (b:=g) L.ok;have q1:=L.low;have q2:=L.room;have q3:=L.roots;have q4:=L.rt.capL;have q5:=r.room;have q6:=r.capL;have q7:=L.rt.room;have w1:=Z1 ((g.low.length:Int) -h.low.length) (by omega) (by omega);have w2:=Z1 ((Yi p:Int) -Yi q) (by omega) (by omega);simp only[hpV,actV]at kr kwg sm h2;simp;refine Z0 kr (by simp) ?_;simp[q3,q1];refine Z0 kwh (by simp) ?_;simp[q1];refine Z0 kwg (by simp) ?_;have e1:(g.low.length:Int) -h.low.length=(Yi p:Int) -Yi q:=by omega
 simp[q3,w1,w2,e1];refine⟨q1,?_⟩;by_cases hab:a=b
 ·simp[hab]
 intro _;refine Z0 (h2 hab) (by simp) ?_;simp;refine Z0 sm (by simp) ?_;simp
end Vm
end
section
namespace Go.Proofs.Ytjkmonbmpoegjaa
open Vm Go.ChangeShapes Go.WideShapes Go.ChangeAt Go.RowKit
set_option maxRecDepth 100000
theorem mutatorBarrier_law(xs:List V)(hl:xs.length=Try.f10.params.toList.length)(ht: ∀(i:Nat) (t:TypeId) (x:V),Try.f10.params.toList[i]? =some t→xs[i]? =some x→tyV Try.prog 8 t x):
  VC Try.prog 10 false xs (.bool true):=by
 rw[Try.params10]at hl ht
 match xs,hl with
 | [x0,x1,x2,x3],_=>
   obtain⟨x,rfl,hx⟩:=Z7z (ht 0 _ x0 rfl rfl);obtain⟨n,rfl,hn⟩:=Le (ht 1 _ x1 rfl rfl);obtain⟨m,rfl,hm⟩:=Le (ht 2 _ x2 rfl rfl);obtain⟨k,rfl,hk⟩:=Le (ht 3 _ x3 rfl rfl);exact JQ hx hn hm hk
theorem mutatorBarrier_lifted(os:Os)(started:os.Started)(H:Type)(enc:TypeId×Value→H):
  ReturnsInHanded {} Try.checked os 10 .any (Rows.mutatorBarrierSpec.pre6 enc Try.prog Try.f10 Rows.mutatorBarrierRow.domain false) (Rows.mutatorBarrierSpec.post enc Try.prog Try.f10 false true false false):=by
 refine returnsInHanded_of_change (C:=Try.checked) own started (by kernel_rfl) Try.func10
  (ChangeSpec.witness6 (enc:=enc) (C:=Try.checked) false ⟨#[], #[.agg #[.slice none 0 0,.slice none 0 0,.slice none 0 0,.int .u64 0,.int .i64 0,.int .i64 0,.int .i64 0],.int .i64 0,.int .i64 0,.int .i64 0],[]⟩ 8 (by kernel_rfl) (by kernel_rfl) (by kernel_rfl) (by kernel_rfl)) ?_
 intro W base args ds gs before hval hW _ _
 exact Jk (tb:=4) 8 laidOut (by kernel_rfl) (by kernel_rfl) rfl (by kernel_rfl) Try.underlying4 (fun H ds hd=>by
  rw[Try.params10]at hd
  match ds,hd with
  | [_,_,_,_],_=>rfl) mutatorBarrier_law H enc W base args ds gs before hval hW
theorem mutatorBarrier_holds:Rows.MutatorBarrierSaid:=
 OpenClaim.holds_of_wide 10 Try.f10 rfl rfl rfl rfl rfl rfl rfl ⟨rfl,rfl,rfl,rfl,rfl⟩ rfl rfl rfl rfl rfl (by kernel_rfl) Try.func10 (by kernel_rfl)
  (of_decide_eq_true (by kernel_rfl)) (by unfold Func.isWrapper;first| (rw[if_pos (by decide+kernel)];kernel_rfl) | (rw[if_neg (by decide+kernel)];exact⟨rfl,rfl⟩))
  (fun os started H enc _=>mutatorBarrier_lifted os started H enc)
#print axioms mutatorBarrier_holds
end Go.Proofs.Ytjkmonbmpoegjaa
end
