/-
  The law MutatorScans holds of the given program, for every input.
-/
import Derived.Test.YtjkmonbmpoegjaaRows
import Derived.Test.YtjkmonbmpoegjaaSMutatorScans7
set_option linter.unusedSimpArgs false
set_option linter.unusedVariables false
set_option linter.defProp false
section
namespace Vm
open Go Go.Proofs Go.RowKit
set_option maxHeartbeats 2000000
set_option maxRecDepth 100000
theorem qQ{w:World}{G:Nat→Prop}{r:Hp×Int}(e:Ending)(w':World)(h:Xn w r e w'):Jo G w r e w':=by
 obtain⟨x,h1,h2,h3⟩:=h;exact⟨x,h1,h2,fun j hj=>(h3 j hj).mono fun b q=> .inr q⟩
theorem Z3u{h:Hp}(hh:h.ok)(hr:ZE h=true){k rr s i z pp v vv er:Int}{g:Hp}(hk:1≤k∧k≤7)(hin: ∀u∈Wi k rr s,0≤u∧u<h.roots.length)
  {F:FuncId} (hcF:ZX Try.prog F=true) (hM: ∀(n:Nat) (W:World) (x:Value),0<n→(method n (XZ k) x "cromlech/mutator.do").run Try.prog W= .ok (F,x) W)
  (hF: ∀(w:World) (G:Nat→Prop) (src:Nat→Value),(∀b,G b→b<w.heap.size)→(∀j,j<5→Rd w G (.sl ((lsH h j).map vu)) (src j))→Calls Try.prog F #[.agg (actA k rr s i z pp v),hpA h src] w (Jo G w (g,er)))
  (hE:(¬er=0∧vv=0∧g=Hp.zero)∨(er=0∧vv=0∧ ∀(W:World) (x:Value),(Instr.typeAssert (.iface (XZ k) x) 94 98 true).run Try.prog W= .ok (.tuple #[.nilIface,.bool false]) W)∨
   (er=0∧(∀(W:World) (x:Value),(Instr.typeAssert (.iface (XZ k) x) 94 98 true).run Try.prog W= .ok (.tuple #[.iface (XZ k) x,.bool true]) W)∧ ∃Fo,ZX Try.prog Fo=true∧(∀(n:Nat) (W:World) (x:Value),0<n→(method n (XZ k) x "cromlech/mutator.told").run Try.prog W= .ok (Fo,x) W)∧
    VC Try.prog Fo false [actV k rr s i z pp v,hpV h] (vu vv))):
  VC Try.prog 34 false [hpV h,actV k rr s i z pp v] (.tup [vu vv,hpV g,vi er]):=by
 refine QE (by kernel_rfl) (y:=actV k rr s i z pp v) rfl (r:=(vv,g,er)) fun w G src hG hs=> ?_;have hs': ∀W,Below w.heap.size w W→ ∀j,j<5→Rd W G (.sl ((lsH h j).map vu)) (src j):=fun W hb j hj=>(hs j hj).keep (fun b hb'=>hb.block b (hG b hb')) fun _ q=>q;have hG': ∀W,Below w.heap.size w W→ ∀b,G b→b<W.heap.size:=fun W hb b hb'=>Z8h (hG b hb') hb.size;refine Z6P w G hG h hh src hs hr hk hin hcF hM (fun W hb=>hF W G src (hG' W hb) (hs' W hb)) ?_;rcases hE with h1|h1| ⟨h1,h2,Fo,h3,h4,h5⟩
 ·exact .inl h1
 ·exact .inr (.inl h1)
 ·refine .inr (.inr ⟨h1,h2,Fo,h3,h4,fun W hb=>Za8 (h5.2 W G _ (hG' W hb) rfl ?_) ?_⟩)
  ·intro i y hy
   match i,hy with
   |0,hy=>cases hy;exact QQ rfl
   |1,hy=>cases hy;exact QT (hs' W hb)
  ·rintro e w' ⟨v,rfl,hb,hv⟩;exact⟨by rw[Yf hv],hb⟩
theorem Z0Y{h:Hp}(hh:h.ok)(hr:ZE h=true){rr z pp v i w0:Int}{s:Nat}(hrt:h.roots[s]? =some w0)(hv:U64 v)(hi:Fit i){res:Hp×Int}
  (hO:(w0=0∧res=(Hp.zero,6))∨ ∃j a n m u,ObAt h w0 j a n m u∧((0≤i∧i< (n-m:Nat)∧res=(setL h j (a+1+m+i.toNat) v,0))∨(¬(0≤i∧i< (n-m:Nat))∧res=(Hp.zero,1)))):
  VC Try.prog 34 false [hpV h,actV 5 rr s i z pp v] (.tup [vu 0,hpV res.1,vi res.2]):=by
 obtain⟨p,r⟩:=Xy.1 hr;have hlt:=(Z86.1 hrt).1;refine Z3u hh hr (by omega) (fun u hu=>by simp[Wi]at hu;omega) (F:=151) (by kernel_rfl) Z0O (fun w G src hG hs=>(jZ w G hG h hh src hs r.lay hrt hv hi hO).mono qQ) ?_;rcases hO with ⟨_,rfl⟩ | ⟨j,a,n,m,u,O,⟨_,_,rfl⟩ | ⟨_,rfl⟩⟩
 ·exact .inl ⟨by decide,rfl,rfl⟩
 ·exact .inr (.inl ⟨rfl,rfl,Z7c⟩)
 ·exact .inl ⟨by decide,rfl,rfl⟩
theorem Z2c{F:FuncId}{a:V}{h:Hp}{r:Hp×Int}(ha:UW a=true)(hv:VC Try.prog F false [a,hpV h] (.tup [hpV r.1,vi r.2]))(w:World)(G:Nat→Prop)(src:Nat→Value)(hG: ∀b,G b→b<w.heap.size)(hs: ∀j,j<5→Rd w G (.sl ((lsH h j).map vu)) (src j)):
  Calls Try.prog F #[SK a,hpA h src] w (Jo G w r):=by
 refine Za8 (hv.2 w G _ hG rfl ?_) ?_
 ·intro i y hy
  match i,hy with
  |0,hy=>cases hy;exact QQ ha
  |1,hy=>cases hy;exact QT hs
 ·rintro e w' ⟨v,rfl,hb,hv⟩;obtain⟨x',rfl,hx⟩:=Z2B hv;exact⟨x',rfl,hb,fun j hj=>(hx j hj).mono fun b hb'=>by simpa using hb'⟩
theorem zb{h:Hp}(hh:h.ok)(hr:ZE h=true){rr z pp v i w0 vv:Int}{s:Nat}(hrt:h.roots[s]? =some w0){res:Hp×Int}
  (hO:(w0=0∧res=(Hp.zero,6)∧vv=0)∨ ∃(i' j a n m:Nat) (u:Int),i=i'∧ObAt h w0 j a n m u∧i'<n-m∧(lsH h j)[a+1+m+i']? =some vv∧res=(h,0)):
  VC Try.prog 34 false [hpV h,actV 3 rr s i z pp v] (.tup [vu vv,hpV res.1,vi res.2]):=by
 obtain⟨p,r⟩:=Xy.1 hr;have hlt:=(Z86.1 hrt).1;refine Z3u hh hr (by omega) (fun u hu=>by simp[Wi]at hu;omega) (F:=148) (by kernel_rfl) Z1b (fun w G src hG hs=>Z2c (a:=actV 3 rr s i z pp v) rfl (Z22 hh r.lay hrt ?_) w G src hG hs) ?_
 ·rcases hO with ⟨h1,h2,_⟩ | ⟨i',j,a,n,m,u,rfl,O,hi,_,h2⟩
  ·exact .inl ⟨h1,h2⟩
  ·exact .inr ⟨j,a,n,m,u,O,.inl ⟨by omega,by omega,h2⟩⟩
 ·rcases hO with ⟨_,rfl,rfl⟩ | ⟨i',j,a,n,m,u,rfl,O,hi,hy,rfl⟩
  ·exact .inl ⟨by decide,rfl,rfl⟩
  ·exact .inr (.inr ⟨rfl,Z6W,149,by kernel_rfl,yY,Z2M hh r.lay hrt O hy hi⟩)
theorem zg{h:Hp}(hh:h.ok){p q:Pts}(r:Rt h p){r' n:Nat}(hrl:r'<h.roots.length){s i pt wd v:Int}(hn:n≤255)(hpk:YE n pt=(wd,0))(rq:Rt (Y0 h p n) q){res:Hp×Int}
  (hres:(YF (Y0 h p n) q (n+1:Nat)=false∧res=(Hp.zero,7))∨(h.cycle=false∧YF h p (n+1:Nat)=true∧res=(setL (Zr h wd n) 4 r' (refR (layH (Zr h wd n)) 2 0),0))):
  VC Try.prog 34 false [hpV h,actV 1 r' s i n pt v] (.tup [vu 0,hpV res.1,vi res.2]):=by
 refine Z3u hh r.right (by omega) (fun u hu=>by simp[Wi]at hu;omega) (F:=144) (by kernel_rfl) Z10 (fun w G src hG hs=> ?_) ?_
 ·refine Za8 (Z03 w h src (v':=(Yz h p q n wd).1) (g:=(Yz h p q n wd).2.1) (er:=(Yz h p q n wd).2.2) (Q:=h.cycle=false∧YF h p (n+1:Nat)=true) (res:=res) (fun W hb=> ?_) ?_) qQ
  ·obtain⟨q',rq',_,hc⟩:=SI W G (fun b hb'=>Z8h (hG b hb') hb.size) h hh src (fun j hj=>(hs j hj).keep (fun b hb'=>hb.block b (hG b hb')) fun _ q=>q) n pt wd hn hpk r;rw[rq.uniq rq']at hc;exact hc
  ·rcases hres with ⟨h1,h2⟩ | ⟨h1,h2,h3⟩
   ·left;unfold Yz;rw[h1,h2];exact⟨by simp,rfl⟩
   ·right
    have hg:Y0 h p n=h:=by
     unfold Y0;rw[if_neg (by rw[h2];simp),Xq h1]
    rw[hg]at rq;rw[r.uniq rq];unfold Yz;rw[hg,h2,h3];exact⟨rfl,⟨h1,rfl⟩,hrl,rfl⟩
 ·rcases hres with ⟨_,rfl⟩ | ⟨_,_,rfl⟩
  ·exact .inl ⟨by decide,rfl,rfl⟩
  ·exact .inr (.inl ⟨rfl,rfl,Z6D⟩)
end Vm
end
section
namespace Vm
open Go Go.Proofs Go.RowKit
set_option maxHeartbeats 4000000
set_option maxRecDepth 100000
theorem Z3w(w:World)(G:Nat→Prop)(hG: ∀b,G b→b<w.heap.size)(h:Hp)(hh:h.ok)(src:Nat→Value)(hs: ∀j,j<5→Rd w G (.sl ((lsH h j).map vu)) (src j))(hr:ZE h=true){k rr s i z pp v:Int}(hk: ¬(1≤k∧k≤7)):
  Calls Try.prog 34 #[hpA h src,.agg (actA k rr s i z pp v)] w (DoPost G w (0,Hp.zero,1)):=by
 have HR: ∀W,Below w.heap.size w W→Calls Try.prog 33 #[hpA h src] W fun e w'=>e= .returned (.bool (ZE h))∧Below W.heap.size W w':=fun W hb=>
  YC (w:=W) (G:=G) (x:=src) hh (fun b hb'=>Z8h (hG b hb') hb.size) (fun j hj=>(hs j hj).keep (fun b hb'=>hb.block b (hG b hb')) fun _ q=>q)
 rw[hr]at HR;obtain⟨W0,hW0,hz0,st0⟩:=zl w (.cells (nowA h src) 25) (.cells (actA k rr s i z pp v) 64);obtain⟨p0,s0,_,_⟩:=st0.F;have ST0:=Z89 st0;have hkv:Qw k rr s i z pp v= .nilIface:=by unfold Qw;rw[if_neg hk]
 have HKI:=Z89 (fun W=>RH W k rr s i z pp v);rw[hkv]at HKI;have HRR:=HR W0 ST0.out.bel;unfold nowA actA at hW0;unfold nowA at p0;unfold actA at s0;unfold hpA at HRR;have HR0:=Z89 HRR;clear HR hs st0 hkv HRR;unfold hpA actA;have hneq: ∀(W:World),(binOp .eql 94 .nilIface .nilIface).run Try.prog W= .ok (.bool true) W:=fun W=>by rfl
 go_enter Try.func34,Try.ntmps34
 go_wp2_with (first
  | (go_at_call 33;go_loud (refine HR0.out.mono ?_;rintro e w1 ⟨rfl,hb1⟩;have st1:=ST0.out.below hb1;obtain⟨p1,s1,_,_⟩:=st1.F;unfold nowA at p1;unfold actA at s1;have ST1:=Z89 st1;clear hb1 st1 p0 s0))
  | (go_at_call 53;go_loud (refine(HKI.out w1).mono ?_;rintro e w2 ⟨rfl,hb2⟩;have st2:=ST1.out.below hb2;obtain⟨_,_,r2,rz2⟩:=st2.F;unfold Zi at r2;have ST2:=Z89 st2;clear hb2 st2 p1 s1)))
 have z13:=Zl ST2.out.b2 (.int .u64 0) (.int .i64 0) (.int .i64 0) (.bool false) (.int .i64 0) (.slice none 0 0) (.slice none 0 0) (.slice none 0 0) (.slice none 0 0) (.slice none 0 0);refine Z8t (v:= .tuple #[.int .u64 0,.agg Zi,.int .i64 1]) ?_ rfl ?_
 ·simp[results,Try.results34,go_sem,z13,Zi]
 ·exact zB hG (x:=fun _=> .slice none 0 0) ST2.out.bel (UU _ _) _ _ _ _ _ _ _ _ _ _ _ _
theorem Z0o{h:Hp}(hh:h.ok)(hr:ZE h=true){k rr s i z pp v:Int}(hk: ¬(1≤k∧k≤7)):VC Try.prog 34 false [hpV h,actV k rr s i z pp v] (.tup [vu 0,hpV Hp.zero,vi 1]):=
 QE (by kernel_rfl) (y:=actV k rr s i z pp v) rfl (r:=(0,Hp.zero,1)) fun w G src hG hs=>Z3w w G hG h hh src hs hr hk
def h16:Hp:=⟨10,5,0,false,0,[],[],[],[],[0]⟩
def g16:Hp:=⟨10,5,0,false,0,[],[131076,0,0],[],[],[25]⟩
def k16:Hp:=⟨10,5,0,false,0,[],[131076,0,9],[],[],[25]⟩
theorem Rk:h16.ok:=by refine⟨?_,?_,?_,?_,?_,?_,?_,?_,?_,?_,?_,?_,?_,?_⟩<;>simp[h16,U64,Fit]
theorem LT:g16.ok:=by refine⟨?_,?_,?_,?_,?_,?_,?_,?_,?_,?_,?_,?_,?_,?_⟩<;>simp[g16,U64,Fit]
theorem Z5D:k16.ok:=by refine⟨?_,?_,?_,?_,?_,?_,?_,?_,?_,?_,?_,?_,?_,?_⟩<;>simp[k16,U64,Fit]
theorem Xp{h:Hp}{p:Pts}(r:Rt h p)(n:Int):YF h p n=decide ((h.low.length:Int)+h.high.length+UB h+n≤h.cap):=by unfold YF;rw[r.wait]
theorem KY{h:Hp}{p:Pts}(r:Rt h p){n:Nat}(h1:h.cycle=false)(h2:decide ((h.low.length:Int)+h.high.length+UB h+(n+1:Nat)≤h.cap)=true):Y0 h p n=h:=by
 unfold Y0;rw[if_neg (by rw[Xp r,h2];simp),Xq h1]
theorem Td{h:Hp}{p:Pts}(r:Rt h p){n:Nat}(h1:h.cycle=false)(h2:decide ((h.low.length:Int)+h.high.length+UB h+(n+1:Nat)≤h.cap)=false):Y0 h p n=ZA (Y3 h) (n+1):=by
 unfold Y0;rw[if_pos ⟨h1,by rw[Xp r,h2]⟩]
theorem Z48:ObAt g16 25 1 0 2 1 131076:=⟨.inr rfl,by decide+kernel,by unfold U64;omega,rfl,by decide+kernel,by omega,by decide⟩
theorem Z5d:ObAt k16 25 1 0 2 1 131076:=⟨.inr rfl,by decide+kernel,by unfold U64;omega,rfl,by decide+kernel,by omega,by decide⟩
theorem yL:VC Try.prog 30 false [] (.bool true):=by
 refine Z4 Try.func30 follows (by kernel_rfl) c30 rfl ?_;have y1:ZE h16=true:=by decide+kernel
 have y2:ZE g16=true:=by decide+kernel
 have y3:ZE k16=true:=by decide+kernel
 obtain⟨p1,r1⟩:=Xy.1 y1;obtain⟨p2,r2⟩:=Xy.1 y2;have e1:YE (2:Nat) 1=(131076,0):=by decide+kernel
 have e2:YE (2:Nat) 0=(4,0):=by decide+kernel
 have e3:YE (4:Nat) 0=(8,0):=by decide+kernel
 have e4:YE (5:Nat) 0=(10,0):=by decide+kernel
 have f1:decide ((h16.low.length:Int)+h16.high.length+UB h16+(2+1:Nat)≤h16.cap)=true:=by decide+kernel
 have f2:decide ((g16.low.length:Int)+g16.high.length+UB g16+(2+1:Nat)≤g16.cap)=false:=by decide+kernel
 have f3:decide ((h16.low.length:Int)+h16.high.length+UB h16+(4+1:Nat)≤h16.cap)=true:=by decide+kernel
 have f4:decide ((h16.low.length:Int)+h16.high.length+UB h16+(5+1:Nat)≤h16.cap)=false:=by decide+kernel
 have f5:decide (((ZA (Y3 g16) 3).low.length:Int)+(ZA (Y3 g16) 3).high.length+UB (ZA (Y3 g16) 3)+(2+1:Nat)≤(ZA (Y3 g16) 3).cap)=false:=by decide+kernel
 have f6:decide (((ZA (Y3 h16) 6).low.length:Int)+(ZA (Y3 h16) 6).high.length+UB (ZA (Y3 h16) 6)+(5+1:Nat)≤(ZA (Y3 h16) 6).cap)=false:=by decide+kernel
 obtain⟨q1,rq1,_,_⟩:=UD Rk r1 (n:=2) (by omega) e1;obtain⟨q2,rq2,_,_⟩:=UD LT r2 (n:=2) (by omega) e2;obtain⟨q3,rq3,_,m7⟩:=UD Rk r1 (n:=4) (by omega) e3;obtain⟨q4,rq4,_,m8⟩:=UD Rk r1 (n:=5) (by omega) e4;have m1:=zg (v:=0) (s:=0) (i:=0) (r':=0) Rk r1 (by decide) (by omega) e1 rq1 (.inr ⟨rfl,by rw[Xp r1,f1],rfl⟩);rw[show setL (Zr h16 131076 2) 4 0 (refR (layH (Zr h16 131076 2)) 2 0)=g16 by decide+kernel]at m1;have m2:=Z0Y (rr:=0) (z:=0) (pp:=0) (v:=9) (i:=0) (s:=0) LT y2 rfl (by unfold U64;omega) ⟨by omega,by omega⟩ (.inr ⟨1,0,2,1,131076,Z48,.inl ⟨by omega,by omega,rfl⟩⟩);rw[show setL g16 1 (0+1+1+Int.toNat 0) 9=k16 by decide+kernel]at m2;have m3:=zb (rr:=0) (z:=0) (pp:=0) (v:=0) (i:=0) (s:=0) (vv:=9) (res:=(k16,0)) Z5D y3 rfl (.inr ⟨0,1,0,2,1,131076,rfl,Z5d,by omega,rfl,rfl⟩);have m4:=zg (v:=0) (s:=0) (i:=0) (r':=0) LT r2 (by decide) (by omega) e2 rq2 (.inl ⟨by rw[Xp rq2,Td r2 rfl f2];exact f5,rfl⟩);have m5:=zb (rr:=0) (z:=0) (pp:=0) (v:=0) (i:=0) (s:=0) Rk y1 rfl (.inl ⟨rfl,rfl,rfl⟩);have m6:=Z0o (rr:=0) (z:=0) (pp:=0) (v:=0) (i:=0) (s:=0) (k:=0) Rk y1 (by omega)
 have g7:Yz h16 p1 q3 4 8=(21,Zr h16 8 4,0):=by
  unfold Yz;rw[KY r1 rfl f3]at rq3⊢;rw[Xp rq3,f3,if_pos rfl];rw[show refR (layH (Zr h16 8 4)) 2 0=21 by decide+kernel]
 have g8:Yz h16 p1 q4 5 10=(0,Hp.zero,7):=by
  unfold Yz;rw[Td r1 rfl f4]at rq4⊢;rw[Xp rq4,f6];rfl
 rw[g7]at m7;rw[g8]at m8;have s1:=zd (a:=g16) (b:=g16) LT;simp only[hpV,h16,g16,k16,Hp.zero,actV,Z8x,Z9l]at m1 m2 m3 m4 m5 m6 m7 m8 s1;simp[p30];refine Z0 m1 (by simp) ?_;simp;refine Z0 m2 (by simp) ?_;simp;refine Z0 m3 (by simp) ?_;simp;refine Z0 m4 (by simp) ?_;simp;refine Z0 m5 (by simp) ?_;simp;refine Z0 m6 (by simp) ?_;simp;refine Z0 m7 (by simp) ?_;simp;refine Z0 m8 (by simp) ?_;simp;refine Z0 s1 (by simp) ?_;simp
end Vm
end
section
namespace Vm
open Go Go.Proofs
set_option maxRecDepth 100000
set_option maxHeartbeats 1000000
def Lx(k:Nat)(o:Ob):Ob:= {o with at_:=o.at_+(k:Int)}
theorem Ju{ws r:List Int}{old:Bool}{o:Ob}(s:Stands ws old o):Stands (r++ws) old (Lx r.length o):=by
 obtain⟨a,ha⟩:=Z8p s.nat;have e:(o.at_+(r.length:Int)).toNat=r.length+a:=by rw[ha];omega
 have e0:o.at_.toNat=a:=by rw[ha];rfl
 refine⟨by show 0≤o.at_+(r.length:Int);have:=s.nat;omega,s.shape,?_,?_,?_⟩
 ·show o.at_+(r.length:Int)+1+o.size≤((r++ws).length:Nat);have:=s.fits;rw[Z8D];omega
 ·have:=s.slots;show ZH (((r++ws).drop ((o.at_+(r.length:Int)).toNat+1)).take o.size.toNat) o.gone o.ptrs 0=true;rw[e,Z90,←List.drop_drop,List.drop_left,←e0];exact this
 ·obtain⟨w,h1,h2⟩:=s.word;refine⟨w,?_,h2⟩;show(r++ws)[(o.at_+(r.length:Int)).toNat]? =some w;rw[e,Z8k (by omega),Z9X,←e0];exact h1
theorem TX{ws r:List Int}{old:Bool}: ∀ {a:Nat} {l:List Ob},Tiles ws old a l→Tiles (r++ws) old (r.length+a) (l.map (Lx r.length))
 |a,[],h=>by
  show(r++ws).length≤r.length+a;have:ws.length≤a:=h;rw[Z8D];omega
 |a,o::l,⟨h1,h2,h3⟩=>by
  refine⟨by show o.at_+(r.length:Int)=((r.length+a:Nat):Int);omega,Ju h2,?_⟩;have:=TX (r:=r) h3;rw[show r.length+a+1+(Lx r.length o).size.toNat=r.length+(a+1+o.size.toNat)by show r.length+a+1+o.size.toNat=_;omega];exact this
def VA(p:Pts)(n:Nat)(m:Int):Pts:= {p with high:=⟨0,(n:Int),m,false,0⟩::p.high.map (Lx (n+1))}
section
variable {g:Hp} {p:Pts} {wd m:Int} {n:Nat}
theorem Uf(wd:Int)(n:Nat)(k:Int):fstL (layH (Zr g wd n)) k=if k=2 then fstL (layH g) 2- ((n+1:Nat):Int)else fstL (layH g) k:=by
 have hl:(layH (Zr g wd n)).high=(layH g).high+((n+1:Nat):Int):=by
  show((((wd::List.replicate n 0)++g.high).length:Nat):Int)=(g.high.length:Int)+_;simp;omega
 unfold fstL;rw[hl];by_cases h1:k=1
 ·subst h1;rfl
 by_cases h2:k=2
 ·subst h2;show(layH g).base+(layH g).to*(layH g).cap+((layH g).cap- ((layH g).high+((n+1:Nat):Int)))=(layH g).base+(layH g).to*(layH g).cap+((layH g).cap- (layH g).high) - ((n+1:Nat):Int);omega
 rw[if_neg h1,if_neg h2,if_neg h2,if_neg h1,if_neg h2];rfl
theorem Uo(k:Int):(VA p n m).at k=if k=2 then⟨0,(n:Int),m,false,0⟩::p.high.map (Lx (n+1))else p.at k:=by
 unfold VA Pts.at;by_cases h1:k=1
 ·subst h1;rfl
 by_cases h2:k=2
 ·subst h2;rfl
 rw[if_neg h1,if_neg h2,if_neg h2,if_neg h1,if_neg h2]
theorem RU(k:Int):Z7 (Zr g wd n) k=if k=2 then(wd::List.replicate n 0)++g.high else Z7 g k:=by
 unfold Z7 Zr;by_cases h1:k=1
 ·subst h1;rfl
 by_cases h2:k=2
 ·subst h2;rfl
 rw[if_neg h1,if_neg h2,if_neg h2,if_neg h1,if_neg h2]
theorem WO{w i j:Int}(h:Gos g p w i j):Gos (Zr g wd n) (VA p n m) w i j:=by
 rcases h with h0| ⟨k,o,hk,ho,e⟩
 ·exact .inl h0
 ·right;by_cases h2:k=2
  ·subst h2;refine⟨2,Lx (n+1) o,hk,?_,?_⟩
   ·rw[Uo,if_pos rfl];exact Z8V _ (Za4 ho)
   ·rw[e];unfold refR;rw[Uf,if_pos rfl];show _=2*(fstL (layH g) 2- ((n+1:Nat):Int)+(o.at_+((n+1:Nat):Int)))+1;omega
  ·refine⟨k,o,hk,by rw[Uo,if_neg h2];exact ho,?_⟩;rw[e];unfold refR;rw[Uf,if_neg h2]
theorem Kc{k:Int}{i:Nat}{w:Int}(h:Xf g p k i w):Xf (Zr g wd n) (VA p n m) k i w:=by
 unfold Xf at h⊢;show if 2<k then Gos (Zr g wd n) (VA p n m) w 3 4 else if k=1∧g.scan≤(i:Int)then Gos (Zr g wd n) (VA p n m) w 1 2∨Gos (Zr g wd n) (VA p n m) w 3 4 else Gos (Zr g wd n) (VA p n m) w 1 2;split
 ·rw[if_pos (by assumption)]at h;exact WO h
 ·rw[if_neg (by assumption)]at h;by_cases hc:k=1∧g.scan≤(i:Int)
  ·rw[if_pos hc]at h;rw[if_pos hc];exact h.imp WO WO
  ·rw[if_neg hc]at h;rw[if_neg hc];exact WO h
theorem Rt.place(r:Rt g p)(hw:YE n m=(wd,0))(hb:(g.low.length:Int)+g.high.length+Yi p+(n+1:Nat)≤g.cap):Rt (Zr g wd n) (VA p n m):=by
 have hsh:Zo n m=true:=by
  unfold YE at hw;split at hw
  ·assumption
  ·cases hw
 obtain⟨s1,s2,s3,s4⟩:=Z3.1 hsh
 have hun:unpk wd=((n:Int),m,0):=by
  have:=Jq hsh;rw[hw]at this;exact this
 have hlen:(wd::List.replicate n 0).length=n+1:=by simp
 have hst:Stands ((wd::List.replicate n 0)++g.high) false ⟨0,(n:Int),m,false,0⟩:=by
  refine⟨Int.le_refl _,hsh,?_,?_,⟨wd,rfl,?_⟩⟩
  ·rw[Z8D,hlen];show(0:Int)+1+(n:Int)≤_;omega
  ·show ZH ((((wd::List.replicate n 0)++g.high).drop 1).take n) false m 0=true;rw[show((wd::List.replicate n 0)++g.high).drop 1=List.replicate n 0++g.high from rfl,ZbP (by simp)];refine Yp fun j w hj=>⟨fun h=>(by cases h),fun _=> ?_⟩;rw[Zao]at hj;split at hj
   ·cases hj;rfl
   ·cases hj
  ·rw[if_neg (by simp)];exact⟨fun h=>(by cases h),hun,rfl⟩
 refine⟨⟨⟨Kt r.lay rfl (by omega),fun k hk=> ?_⟩,fun k hk o ho hg=> ?_,fun k hk o ho hg j hj w hw'=> ?_,?_⟩,r.nroots,r.scan0,r.scanL,r.cyc,r.rest,fun hc o ho=> ?_,fun w hw'=>WO (r.roots w hw')⟩
 ·rw[RU,Uo];by_cases h2:k=2
  ·subst h2;rw[if_pos rfl,if_pos rfl];have:=TX (r:=wd::List.replicate n 0) (r.tiles 2 (by omega));rw[hlen]at this;refine⟨rfl,hst,?_⟩;show Tiles _ _ (0+1+n) _;rw[show 0+1+n=n+1+0 by omega];exact this
  ·rw[if_neg h2,if_neg h2];exact r.tiles k hk
 ·have h2: ¬k=2:=by omega
  rw[Uo,if_neg h2]at ho;obtain⟨q,h1,h3,h4⟩:=r.gone k hk o ho hg;exact⟨q,h1,by rw[Uf,if_neg (by omega)];exact h3,h4⟩
 ·rw[Uo]at ho;rw[RU]at hw';by_cases h2:k=2
  ·subst h2;rw[if_pos rfl]at ho hw';rcases Z8C.1 ho with rfl|ho
   ·have hj':(j:Int) <m:=hj
    have:((wd::List.replicate n 0)++g.high)[0+1+j]? =some 0:=by
     rw[Z8m (by rw[hlen];omega),show 0+1+j=j+1 by omega,Zan,Zao,if_pos (by omega)]
    have e:w=0:=by
     have h0:((wd::List.replicate n 0)++g.high)[0+1+j]? =some w:=hw';rw[this]at h0;exact(Zbd h0).symm
    rw[e];exact RE _ _
   ·obtain⟨o',ho',rfl⟩:=Z8A.1 ho;obtain⟨a,ha⟩:=Z8p ((r.tiles 2 (by omega)).stands o' ho').1.nat
    have e:(Lx (n+1) o').at_.toNat+1+j=(n+1)+(o'.at_.toNat+1+j):=by
     show(o'.at_+((n+1:Nat):Int)).toNat+1+j=_;rw[ha];omega
    rw[e]at hw'⊢
    have hw2:g.high[o'.at_.toNat+1+j]? =some w:=by
     rw[Z8k (by rw[hlen];omega),hlen,Z9X]at hw';exact hw'
    have:=r.ptr 2 (by omega) o' ho' hg j hj w hw2;have h3:Xf (Zr g wd n) (VA p n m) 2 (o'.at_.toNat+1+j) w:=Kc this;unfold Xf at h3⊢;simpa using h3
  ·rw[if_neg h2]at ho hw';exact Kc (r.ptr k hk o ho hg j hj w hw')
 ·show(g.low.length:Int)+((((wd::List.replicate n 0)++g.high).length:Nat):Int)+(Yi p:Nat)≤g.cap;rw[Z8D,hlen];omega
 ·rw[Uf,if_neg (by omega)];exact r.once hc o ho
end
end Vm
end
section
namespace Vm
open Go
open Go.Proofs
set_option maxRecDepth 100000
def p9:Fn:=⟨23,[0,1,2,3,6,7,8,9,10,12,11,13,14,15,48,51,16,77,95,17,18,104,112],
pQ [pR [(3,pS 0 7),pV 4 pF],pC [pK 23 30 []] [pV 5 (.s 23)],pC [pK 24 14 [.mm 3 0 7]] [(6,pS 24 10)],pC [pK 25 31 [.s 1,pI 9]] [(7,.m [.fld (.ag [.one (.s 25),pI 0]) 0,.fld (.ag [.one (.s 25),pI 0]) 1])],pC [pK 26 31 [.s 2,.bin .add (.m 7 0) (pI 1)]] [(7,.m [.m 7 0,.one (.s 26)])],pR [pV 8 (.bin .add (pI 1) (.m 7 0))],pC [pK 27 32 [.mm 6 0 10,.mm 7 0 2]] [(9,pM (.sz (.ext (.s 27) 1) 10) 10),pV 10 (.ext (.s 27) 0),pV 11 (.ext (.s 27) 2)],pC [pK 28 29 [.mm 6 0 10,.s 8]] [(12,pM (.sz (.ext (.s 28) 0) 10) 10),pV 13 (.ext (.s 28) 1)],pQ [pR [pV 14 (.bin .neq (.s 13) (pI 0))]] (.cond (.s 14) (pQ [pR [pV 4 pF]] .ret) .skip),pQ [pR [pV 15 (.un .not (.m 6 3))]] (.cond (.s 15) (pQ [.reg ⟨[.lt 29 [] (.s 5),.lt 30 [(29,true)] (.bin .eql (.s 11) (pI 0))],[([(29,true),(30,false)],.bin .eql (.s 11) (pI 7)),([(29,true)],.ite (.s 30) pT (.bin .eql (.s 11) (pI 7)))],[pV 4 (.ite (.s 29) (.ite (.s 30) pT (.bin .eql (.s 11) (pI 7))) pF)]⟩] .ret) .skip),pC [pK 31 26 [.mm 12 0 10]] [pV 16 (.bin .leq (.bin .add (.bin .add (.bin .add (.len (.m 12 5)) (.len (.m 12 6))) (.s 31)) (.s 8)) (.m 12 1))],pQ [pR [pV 17 (.bin .neq (.s 11) (pI 0))]] (.cond (.s 17) (pQ [.reg ⟨[.lt 32 [] (.s 5),.lt 33 [] (.ite (.s 32) (.bin .eql (.s 11) (pI 7)) pF)],[([(32,true)],.bin .eql (.s 11) (pI 7)),([(33,true)],.un .not (.s 16))],[pV 4 (.ite (.s 33) (.un .not (.s 16)) pF)]⟩] .ret) .skip),pQ [pR [pV 18 (.bin .neq (.len (.m 9 6)) (.bin .add (.s 8) (.len (.m 12 6))))]] (.cond (.s 18) (pQ [pR [pV 4 pF]] .ret) .skip),pR [(19,pM (.mm 9 0 10) 10)],pR [(19,.m [.m 19 0,.m 19 1,.m 19 2,.m 19 3,.m 19 4,.m 19 5,.slcl (.m 9 6) (.s 8) 1,.m 19 7,.m 19 8,.m 19 9])],pQ [pR [pV 20 (pI 1)]] (.block 0 (.loop [0,1,2,3,4,5,6,7,8,9,10,11,12,13,14,15,16,17,18,19,20] (pQ [pQ [pR [pV 21 (.bin .lss (.s 20) (.s 8))]] (.cond (.s 21) .skip (.exit 0)),.block 1 (pQ [pR [pV 22 (.bin .neq (.fld (.idx (.m 9 6) (.s 20) 1) 0) (pU 0))]] (.cond (.s 22) (pQ [pR [pV 4 pF]] .ret) .skip))] (pR [pV 20 (.bin .add (.s 20) (pI 1))])))),pC [.lt 34 [] (.s 5),.lt 35 [] (.ite (.s 34) (.s 16) pF),.call 36 [(35,true)] (.id 19) false false [.mm 19 0 10,.mm 12 0 10],.lt 37 [] (.ite (.s 35) (.s 36) pF),.call 38 [(37,true)] (.id 33) false false [.mm 9 0 10]] [pV 4 (.ite (.s 37) (.s 38) pF)]] .ret,[(4,.v)]⟩
theorem c9:Zc Try.prog fresh sig [.fz,.fz,.fz] [] Try.f9=some p9:=by kernel_rfl
def p10:Fn:=⟨20,[0,1,2,3,4,8,9,10,11,12,13,15,14,16,46,91,94,18,17,19],
pQ [pR [(4,pS 0 7),pV 5 pF],pC [pK 20 30 []] [pV 6 (.s 20)],pC [pK 21 14 [.mm 4 0 7]] [(7,pS 21 10)],pC [pK 22 31 [.s 1,.len (.m 7 9)]] [pV 8 (.s 22)],pC [pK 23 31 [.s 2,.len (.m 7 9)]] [pV 9 (.s 23)],pC [pK 24 31 [.s 3,pI 4]] [pV 10 (.s 24)],pC [pK 25 34 [.mm 7 0 10,.ag [pI 2,.one (.s 8),.one (.s 9),.one (.s 10),pI 0,pI 0,pU 0]]] [(11,pM (.sz (.ext (.s 25) 1) 10) 10),pV 12 (.ext (.s 25) 0),pV 13 (.ext (.s 25) 2)],pQ [pR [pV 14 (.bin .neq (.s 13) (pI 0))]] (.cond (.s 14) (pQ [.reg ⟨[.lt 26 [] (.s 6),.lt 27 [(26,true)] (.bin .eql (.s 13) (pI 1))],[([(26,true),(27,false)],.bin .eql (.s 13) (pI 6)),([(26,true)],.ite (.s 27) pT (.bin .eql (.s 13) (pI 6)))],[pV 5 (.ite (.s 26) (.ite (.s 27) pT (.bin .eql (.s 13) (pI 6))) pF)]⟩] .ret) .skip),pQ [.reg ⟨[pK 28 33 [.mm 11 0 10],.lt 29 [] (.un .not (.s 28)),.lt 30 [] (.ite (.s 29) pT (.bin .neq (.len (.m 11 9)) (.len (.m 7 9)))),.lt 31 [] (.ite (.s 30) pT (.bin .lss (.len (.m 11 5)) (.len (.m 7 5)))),.call 32 [(31,false)] (.id 26) false false [.mm 7 0 10],.call 33 [(31,false)] (.id 26) false false [.mm 11 0 10]],[([(29,false)],.bin .neq (.len (.m 11 9)) (.len (.m 7 9))),([(30,false)],.bin .lss (.len (.m 11 5)) (.len (.m 7 5))),([(31,false)],.bin .neq (.bin .sub (.len (.m 11 5)) (.len (.m 7 5))) (.bin .sub (.s 32) (.s 33)))],[pV 15 (.ite (.s 31) pT (.bin .neq (.bin .sub (.len (.m 11 5)) (.len (.m 7 5))) (.bin .sub (.s 32) (.s 33))))]⟩] (.cond (.s 15) (pQ [pR [pV 5 pF]] .ret) .skip),pQ [pR [pV 16 (.bin .eql (.s 8) (.s 9))]] (.cond (.s 16) (pQ [pR [pV 5 (.s 6)]] .ret) .skip),pC [pK 34 34 [.mm 11 0 10,.ag [pI 2,.one (.s 8),.one (.s 9),.one (.s 10),pI 0,pI 0,pU 0]]] [(17,pM (.sz (.ext (.s 34) 1) 10) 10),pV 18 (.ext (.s 34) 0),pV 19 (.ext (.s 34) 2)],.reg ⟨[.lt 35 [] (.s 6),.lt 36 [] (.ite (.s 35) (.bin .eql (.s 19) (pI 0)) pF),.call 37 [(36,true)] (.id 19) false false [.mm 17 0 10,.mm 11 0 10]],[([(35,true)],.bin .eql (.s 19) (pI 0))],[pV 5 (.ite (.s 36) (.s 37) pF)]⟩] .ret,[(5,.v)]⟩
theorem c10:Zc Try.prog fresh sig [.fz,.fz,.fz,.fz] [] Try.f10=some p10:=by kernel_rfl
end Vm
end
section
namespace Vm
open Go Go.Proofs
set_option maxRecDepth 100000
set_option maxHeartbeats 2000000
theorem Z0Q{P:Program}{keep:List Nat}{a:Stm}{s:St}{N R:St→Prop}{X:Nat→St→Prop}(c n:Nat)(hn:1≤n)
  (h0:Y5 keep s=putS (Y5 keep s) c (.v (vi 1))) (hc: ∀x,get (putS (Y5 keep s) c x) c=x)
  (h1: ∀i:Nat,1≤i→i≤n→wpS P a (putS (Y5 keep s) c (.v (vi i))) (fun s'=>i<n∧Y5 keep s'=putS (Y5 keep s) c (.v (vi (i+1)))) X R):
  wpS P (.loop keep a) s N X R:=by
 refine Yt (fun i:Nat=> [(c,.v (vi i))]) (fun i=>1≤i∧i≤n) (cnt c n) 1 h0 ⟨by omega,hn⟩ ?_;rintro i ⟨hi,hv⟩;refine Xj (h1 i hi hv) (fun s' hs=> ?_) (fun _ _ h=>h) (fun _ h=>h);obtain⟨h,he⟩:=hs;refine⟨i+1,⟨by omega,by omega⟩,he,?_⟩;have h2: ∀j:Nat,get (VN (Y5 keep s) [(c,.v (vi j))]) c= .v (vi j):=fun j=>hc _;simp only[cnt,h2];simp;omega
theorem yw{x:Rw}(hx:x.ok){n m:Int}(hn:Fit n)(hm:Fit m):VC Try.prog 9 false [rwV x,vi n,vi m] (.bool true):=by
 refine Z4 Try.func9 follows (by kernel_rfl) c9 rfl ?_;simp[p9];refine Z0 yL (by simp) ?_;simp;have kh:=Z3c hx;unfold rwV at kh;refine Z0 kh (by simp) ?_;obtain⟨hh,hl,hro⟩:=Z1p hx;obtain⟨p,r⟩:=Xy.1 (LI hx);generalize Re x=h at*;simp;refine Z0 (JX hn (n:=9) (by omega)) (by simp) ?_;have hp1:=Xb (c:=n) (n:=9) (by omega);obtain⟨a,ha⟩:=Z8p hp1.1;rw[ha]at hp1;have wa:IntKind.i64.wrap ((a:Int)+1)=(a:Int)+1:=Z1 _ (by omega) (by omega);obtain⟨a1,ha1⟩: ∃a1:Nat,a+1=a1:=⟨_,rfl⟩;have wa2:IntKind.i64.wrap (1+(a:Int))=(a1:Int):=by rw[Z1 _ (by omega) (by omega)];omega
 simp[ha,wa];refine Z0 (JX hm (n:=(a:Int)+1) (by omega)) (by simp) ?_;have hp2:=Xb (c:=m) (n:=(a:Int)+1) (by omega);generalize pick m ((a:Int)+1)=b at*
 have hpk:YE a b=(2*((a:Int)+65536*b),0):=by
  unfold YE;rw[if_pos (Z3.2 ⟨by omega,by omega,by omega,by omega⟩)]
 simp[wa2];obtain⟨q,rq,okq,kp⟩:=UD hh r (n:=a) (by omega) hpk;have kq:=Q0 Jp hh (k:=(a1:Int)) ⟨by omega,by omega⟩;rw[JB r]at kq;obtain⟨q1,sq⟩:=r.scans a1;have okg:=XT hh r a1
 have hcase:(h.cycle=false∧((Yz h p q a (2*((a:Int)+65536*b))).2.2=0∨(Yz h p q a (2*((a:Int)+65536*b))).2.2=7))∨(h.cycle=true∧Y0 h p a=ZA h a1):=by
  cases hc:h.cycle with
  |false=>
   left;refine⟨rfl,?_⟩;unfold Yz;split
   ·exact .inl rfl
   ·exact .inr rfl
  |true=>
   right;refine⟨rfl,?_⟩;unfold Y0;rw[if_neg (by rw[hc];simp),ha1]
 rcases hcase with ⟨hc,her⟩ | ⟨hc,hg⟩
 ·obtain⟨⟨v,g,er⟩,hP⟩: ∃t,Yz h p q a (2*((a:Int)+65536*b))=t:=⟨_,rfl⟩;rw[hP]at kp her;generalize ZA h a1=gq at*;simp only[hpV]at kp kq;refine Z0 kp (by simp) ?_;simp;refine Z0 kq (by simp) ?_;simp only at her;rcases her with rfl|rfl<;>simp[hc]
 ·rw[hg]at rq okq
  have eP:Yz h p q a (2*((a:Int)+65536*b))=if YF (ZA h a1) q (a1:Int)then(refR (layH (Zr (ZA h a1) (2*((a:Int)+65536*b)) a)) 2 0,Zr (ZA h a1) (2*((a:Int)+65536*b)) a,0)else(0,Hp.zero,7):=by
   unfold Yz;rw[hg,ha1]
  rw[eP]at kp;have kw:=Z4D okg;rw[rq.wait]at kw;have hroom:=rq.room;have hcap:=rq.capL;have hrt:=rq.place (n:=a) (m:=b) (wd:=2*((a:Int)+65536*b)) hpk;generalize ZA h a1=gq at*;generalize 2*((a:Int)+65536*b)=wd at*;have w1:=Z1 ((gq.low.length:Int)+gq.high.length) (by omega) (by omega);have w2:=Z1 ((gq.low.length:Int)+gq.high.length+(Yi q:Nat)) (by omega) (by omega);have w3:=Z1 ((gq.low.length:Int)+gq.high.length+(Yi q:Nat)+a1) (by omega) (by omega);cases hrm:YF gq q (a1:Int)with
  |false=>
   have hno: ¬((gq.low.length:Int)+gq.high.length+(Yi q:Nat)+a1≤gq.cap):=by simpa[YF]using hrm
   rw[hrm]at kp;simp only[hpV,Z8B,Z8U]at kp kq kw;refine Z0 kp (by simp) ?_;simp;refine Z0 kq (by simp) ?_;simp[hc];refine Z0 kw (by simp) ?_;simp[w1,w2,w3,hno]
  |true=>
   have hyes:(gq.low.length:Int)+gq.high.length+(Yi q:Nat)+a1≤gq.cap:=by simpa[YF]using hrm
   rw[hrm]at kp;simp only[hpV,Z8S]at kp kq kw;refine Z0 kp (by simp) ?_;simp;refine Z0 kq (by simp) ?_;simp[hc];refine Z0 kw (by simp) ?_;have hH:(Zr gq wd a).high=(wd::List.replicate a 0)++gq.high:=rfl;have hL:(Zr gq wd a).high.length=a1+gq.high.length:=by rw[hH];simp;omega
   have hD:List.drop a1 (List.map vu (Zr gq wd a).high)=List.map vu gq.high:=by
    rw[hH,←ha1,←List.map_drop,List.drop_left' (by simp)]
   have hZ: ∀i,1≤i→i<a1→(Zr gq wd a).high[i]? =some 0:=fun i h1 h2=>by
    obtain⟨j,rfl⟩: ∃j,i=j+1:=⟨i-1,by omega⟩;rw[hH,Z8m (by simp;omega),Zan,Zao,if_pos (by omega)]
   have w4:=Z1 ((a1:Int)+gq.high.length) (by omega) (by omega);have hokp:=Jv (wd:=wd) (n:=a) okg (by have:=VV a b;rw[hpk]at this;unfold U64;dsimp only at this;omega) (by have:=rq.room;omega);have kr:=Z32 hokp;rw[(hrt (by rw[ha1];exact hyes)).right]at kr;have s1:=zd (a:=gq) (b:=gq) okg;have b0:(Zr gq wd a).base=gq.base:=rfl;have b1:(Zr gq wd a).cap=gq.cap:=rfl;have b2:(Zr gq wd a).to=gq.to:=rfl;have b3:(Zr gq wd a).cycle=gq.cycle:=rfl;have b4:(Zr gq wd a).scan=gq.scan:=rfl;have b5:(Zr gq wd a).low=gq.low:=rfl;have b6:(Zr gq wd a).old=gq.old:=rfl;have b7:(Zr gq wd a).far=gq.far:=rfl;have b8:(Zr gq wd a).roots=gq.roots:=rfl;simp only[hpV,b0,b1,b2,b3,b4,b5,b6,b7,b8]at kr s1;generalize (Zr gq wd a).high=hi at*;simp[w1,w2,w3,hyes,b0,b1,b2,b3,b4,b5,b6,b7,b8,hL,w4,hD];refine Z0Q 20 a1 (by omega) (by simp) (by simp) ?_;intro i h1 h2;have hwi:=Z1 ((i:Int)+1) (by omega) (by omega);by_cases hlt:i<a1
   ·have hz:=hZ i h1 hlt;have hil:i<hi.length:=by omega
    simp[hlt,hz,ZK hz,hwi,hil]
   ·obtain rfl:i=a1:=by omega
    simp;refine Z0 s1 (by simp) ?_;simp;refine Z0 kr (by simp) ?_;simp
end Vm
end
section
namespace Go.Proofs.Ytjkmonbmpoegjaa
open Vm Go.ChangeShapes Go.WideShapes Go.ChangeAt Go.RowKit
set_option maxRecDepth 100000
theorem mutatorScans_law(xs:List V)(hl:xs.length=Try.f9.params.toList.length)(ht: ∀(i:Nat) (t:TypeId) (x:V),Try.f9.params.toList[i]? =some t→xs[i]? =some x→tyV Try.prog 8 t x):
  VC Try.prog 9 false xs (.bool true):=by
 rw[Try.params9]at hl ht
 match xs,hl with
 | [x0,x1,x2],_=>
   obtain⟨x,rfl,hx⟩:=Z7n (ht 0 _ x0 rfl rfl);obtain⟨n,rfl,hn⟩:=yX (ht 1 _ x1 rfl rfl);obtain⟨m,rfl,hm⟩:=yX (ht 2 _ x2 rfl rfl);exact yw hx hn hm
theorem mutatorScans_lifted(os:Os)(started:os.Started)(H:Type)(enc:TypeId×Value→H):
  ReturnsInHanded {} Try.checked os 9 .any (Rows.mutatorScansSpec.pre6 enc Try.prog Try.f9 Rows.mutatorScansRow.domain false) (Rows.mutatorScansSpec.post enc Try.prog Try.f9 false true false false):=by
 refine returnsInHanded_of_change (C:=Try.checked) own started (by kernel_rfl) Try.func9
  (ChangeSpec.witness6 (enc:=enc) (C:=Try.checked) false ⟨#[], #[.agg #[.slice none 0 0,.slice none 0 0,.slice none 0 0,.int .u64 0,.int .i64 0,.int .i64 0,.int .i64 0],.int .i64 0,.int .i64 0],[]⟩ 8 (by kernel_rfl) (by kernel_rfl) (by kernel_rfl) (by kernel_rfl)) ?_
 intro W base args ds gs before hval hW _ _
 exact K6 (tb:=4) 8 laidOut (by kernel_rfl) (by kernel_rfl) rfl (by kernel_rfl) Try.underlying4 (fun H ds hd=>by
  rw[Try.params9]at hd
  match ds,hd with
  | [_,_,_],_=>rfl) mutatorScans_law H enc W base args ds gs before hval hW
theorem mutatorScans_holds:Rows.MutatorScansSaid:=
 OpenClaim.holds_of_wide 9 Try.f9 rfl rfl rfl rfl rfl rfl rfl ⟨rfl,rfl,rfl,rfl,rfl⟩ rfl rfl rfl rfl rfl (by kernel_rfl) Try.func9 (by kernel_rfl)
  (of_decide_eq_true (by kernel_rfl)) (by unfold Func.isWrapper;first| (rw[if_pos (by decide+kernel)];kernel_rfl) | (rw[if_neg (by decide+kernel)];exact⟨rfl,rfl⟩))
  (fun os started H enc _=>mutatorScans_lifted os started H enc)
#print axioms mutatorScans_holds
end Go.Proofs.Ytjkmonbmpoegjaa
end
