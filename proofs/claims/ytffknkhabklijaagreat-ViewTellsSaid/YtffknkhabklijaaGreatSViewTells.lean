/-
  The law ViewTells holds of the given program, for every input.
-/
import Derived.Test.YtffknkhabklijaaGreatRows
import Derived.Conc.LeavingOf
import Derived.Test.YtffknkhabklijaaGreatSViewTells6
set_option linter.unusedSimpArgs false
set_option linter.unusedVariables false
set_option linter.defProp false
set_option maxHeartbeats 1000000
set_option maxRecDepth 100000
section
namespace Vm
open Go Go.Proofs
theorem Z5e{P:Program}{f:FuncId}{fn:Func}{c:Code}(h1:P.funcs[f]?=some fn)(h2:fn.body=some c)(h3:Kd P c=true):FitF (bes P) f:=⟨λg d hg hd=>by
 have e:(bes P).funcs[f]?=P.funcs[f]? :=rfl;rw[e,h1]at hg;cases hg;rw[h2]at hd;cases hd;exact Z1K h3⟩
def ZfD(l:List Int):NoM (.sl (l.map vi)):=.sl _ λc hc=>by
 have:flat (l.map vi)=l.map vi:=YC λx hx=>by obtain⟨y,_,rfl⟩:=Zhq.1 hx;rfl
 rw[this]at hc;obtain⟨y,_,rfl⟩:=Zhq.1 hc;exact .int _ _
def qT(g:Gr):NoM (grV g):=(Z9x g).m
def nom1{x:V}(h:NoM x):∀y∈[x],NoM y:=λy hy=>by rw[Zia.1 hy];exact h
def nom2{x z:V}(h:NoM x)(k:NoM z):∀y∈[x,z],NoM y:=λy hy=>by
 simp only[Zho,Zil,ZjD]at hy;obtain rfl|rfl:=hy
 ·exact h
 ·exact k
def up{f:FuncId}{args:List V}{r:V}(hv:VC Sol.prog f false args r)(ha:∀x∈args,NoM x)(hr:NoM r):VC (bes Tryz.prog) f false args r:=Z5T Sol.sub hv ha hr
def Z4K{g:Gr}(hg:g.sm):VC (bes Tryz.prog) 36 false [grV g] (vi (words g)):=up (Z7H hg) (nom1 (qT g)) (.int _ _)
def Z1E{a b:Gr}(ha:a.sm):VC (bes Tryz.prog) 12 false [grV a,grV b] (.bool (decide (a=b))):=up (Z9X ha) (nom2 (qT a) (qT b)) (.bool _)
def vg(h:Hp):Gr:=(V0 h).gr h.roots
def ofG(h:Hp):Gr×Int:=if Yp h=true/\right (vg h)=true then(LY (vg h),0)else(noGr,1)
def Z6p(h:Hp):ofR h=.tup [grV (ofG h).1,vi (ofG h).2]:=by
 unfold ofR ofG YI vg;by_cases h1:Yp h=true
 ·rw[if_pos h1];by_cases h2:right ((V0 h).gr h.roots)=true
  ·rw[if_pos h2,if_pos ⟨h1,h2⟩]
  ·rw[if_neg h2,if_neg λx=>h2 x.2]
 ·rw[if_neg h1,if_neg λx=>h1 x.1]
def Z6o{h:Hp}(hh:h.ok):(ofG h).1.sm:=by
 unfold ofG;split
 ·rename_i k;exact Z7P (ofOk hh k.1).sm.gr k.2
 ·exact⟨by simp[noGr],by simp[noGr],by simp[noGr]⟩
def yk{h:Hp}(hh:h.ok):VC (bes Tryz.prog) 10 false [hpV h] (.tup [grV (ofG h).1,vi (ofG h).2]):=by
 rw[<-Z6p];exact ZbE hh
def Z0K(h:Hp):Nat:=if(ofG h).2=0 then words (ofG h).1 else 0
instance fitLive:FitF (bes Tryz.prog) 13:=Z5e (P:=Tryz.prog) Tryz.func13 rfl (by kernel_rfl)
def jU{h:Hp}(hh:h.ok):VC (bes Tryz.prog) 13 false [hpV h] (vi (Z0K h)):=by
 refine Z5 (P:=bes Tryz.prog) Tryz.func13 Qb (by kernel_rfl) c13 rfl ?_;have k:=yk hh;have ks:=Z6o hh;unfold Z0K;generalize ofG h=g at*;obtain⟨g,e⟩:=g;simp only at k ks⊢;simp[p13];refine Z0 k (by simp) ?_;by_cases he:e=0
 ·simp[he];refine Z0 (Z4K ks) (by simp) ?_;simp
 ·simp[he]
def ey1:Hp:=⟨10,5,0,false,2,[2,6],[],[],[],[21,0]⟩
def ey2:Hp:=⟨10,5,1,true,0,[2,6],[],[31,0],[],[31,0]⟩
def eyG:Gr:=⟨[⟨[],[6]⟩],[0,-1]⟩
def Z9o:ey1.ok:=by refine⟨?_,?_,?_,?_,?_,?_,?_,?_,?_,?_,?_,?_,?_,?_⟩<;>simp[ey1,U64,Fit]
def Zc0:ey2.ok:=by refine⟨?_,?_,?_,?_,?_,?_,?_,?_,?_,?_,?_,?_,?_,?_⟩<;>simp[ey2,U64,Fit]
instance fitAwake:FitF (bes Tryz.prog) 5:=Z5e (P:=Tryz.prog) Tryz.func5 rfl (by kernel_rfl)
def Z34:VC (bes Tryz.prog) 5 false [] (.bool true):=by
 refine Z5 (P:=bes Tryz.prog) Tryz.func5 Qb (by kernel_rfl) c5 rfl ?_;have hfl:flV (vi 0)=some (vi 0):=by rfl
 have r1:ofG ey1=(eyG,0):=by decide+kernel
 have r2:ofG Hp.zero=(noGr,1):=by decide+kernel
 have r3:ofG ey2=(eyG,0):=by decide+kernel
 have l1:Z0K ey1=2:=by decide+kernel
 have l2:Z0K Hp.zero=0:=by decide+kernel
 have a1:=yk Z9o;have a2:=yk Hp.zero_ok;have a3:=yk Zc0;have b1:=jU Z9o;have b2:=jU Hp.zero_ok;have s1:=Z1E (a:=eyG) (b:=eyG) (by simp[eyG,Gr.sm]);rw[r1]at a1;rw[r2]at a2;rw[r3]at a3;rw[l1]at b1;rw[l2]at b2;simp[ey1,ey2,eyG,Hp.zero,hpV,grV,ndV,noGr]at a1 a2 a3 b1 b2 s1;simp[p5];refine Z0 a1 (by simp) ?_;simp[hfl];refine Z0 a2 (by simp) ?_;simp[hfl];refine Z0 a3 (by simp) ?_;simp[hfl];refine Z0 s1 (by simp) ?_;simp[hfl];refine Z0 s1 (by simp) ?_;simp[hfl];refine Z0 b1 (by simp) ?_;simp[hfl];refine Z0 b2 (by simp) ?_;simp[hfl]
section
structure Rn where
 ad:Int
 ps:List Int
 ds:List Int
 deriving Inhabited
def rnO(h:Hp)(part:Int)(o:Ob):Rn:=⟨ZA h part o.at_,((Zh h part).take (o.at_+1+o.ptrs).toNat).drop (o.at_+1).toNat,((Zh h part).take (o.at_+1+o.size).toNat).drop (o.at_+1+o.ptrs).toNat⟩
def rnL(h:Hp)(part:Int)(l:List Ob):List Rn:=(l.filter λo=> !o.gone).map (rnO h part)
def rnsP(h:Hp)(p:Pts):Nat->List Rn
 |0=>[]
 |k+1=>rnsP h p k++rnL h ((k:Int)+1) (p.at ((k:Int)+1))
def gAt(h:Hp)(a k:Int)(o:Ob):Bool:=o.gone&&ZA h k o.at_==a
def tgtR(h:Hp)(p:Pts)(a:Int):Int:=match p.old.find? (gAt h a 3)with
 |some o=>o.target
 |none=>match p.far.find? (gAt h a 4)with
  |some o=>o.target
  |none=>a
def UM(l:List Rn)(t:Int):Nat->Int
 |0=> -1
 |k+1=>if(l[k]?.map (·.ad))=some t then k else UM l t k
def S6(h:Hp)(p:Pts)(l:List Rn)(w:Int):Int:=if(adr w).2=0 then UM l (tgtR h p (adr w).1) l.length else-1
def refG(h:Hp)(p:Pts):Gr:=⟨(rnsP h p 4).map λn=>⟨n.ps.map (S6 h p (rnsP h p 4)),n.ds⟩,h.roots.map (S6 h p (rnsP h p 4))⟩
def qB{l m:List Rn}{t:Int}:∀k,k<=l.length->UM (l++m) t k=UM l t k
 |0,_=>rfl
 |k+1,h=>by
  simp only[UM];rw[qB k (by omega),Zi0 (by omega)]
def Z3J(l:List Rn)(n:Rn)(t:Int):UM (l++[n]) t (l++[n]).length=if n.ad=t then(l.length:Int)else UM l t l.length:=by
 rw[Zin,Zip,UM,qB _ (Zhe _)];simp
def foRn(f:Fo):Rn:=⟨f.ad,f.sl.take f.ob.ptrs.toNat,f.sl.drop f.ob.ptrs.toNat⟩
def Z6h:∀(l:List Fo) (s:Vw),(∀a,(getA s.nm a).getD (-1)=UM (s.ns.map foRn) a s.ns.length)->∀a,(getA (l.foldl Vw.put s).nm a).getD (-1)=UM ((l.foldl Vw.put s).ns.map foRn) a (l.foldl Vw.put s).ns.length
 | [],s,h=>h
 |f::l,s,h=>by
  rw[Zjf];refine Z6h l _ λa=> ?_;cases hg:f.ob.gone
  ·have e:s.put f= {s with ns:=s.ns++[f],nm:=putA s.nm f.ad s.ns.length}:=by simp[Vw.put,hg]
   rw[e];have:=Z3J (s.ns.map foRn) (foRn f) a;simp only[Ve,Zic,ZhA,Zja,Zin,Zi1,Zip,Zib,ZiO]at this⊢;rw[this];show _=if f.ad=a then _ else _;split
   ·rfl
   ·exact h a
  ·have e:s.put f= {s with tm:=putA s.tm f.ad f.ob.target}:=by simp[Vw.put,hg]
   rw[e];exact h a
def Z7r(h:Hp)(a:Int):(getA (V0 h).nm a).getD (-1)=UM ((V0 h).ns.map foRn) a (V0 h).ns.length:=Z6h (fos h 4 0) ⟨[],[],[]⟩ (λa=>rfl) a
section
variable {h:Hp}{p:Pts}
def Zak(r:Rt h p){q:Nat}(hq:q<4){o:Ob}(ho:o∈obP h q):foRn (foP h q o)=rnO h ((q:Int)+1) o:=by
 obtain⟨a,n,m,h1,h2,h3,h4,h5,h6⟩:=r.ob4 hq ho;have e1:(o.at_+1).toNat=a+1:=by omega
 have e2:(o.at_+1+o.ptrs).toNat=a+1+m:=by omega
 have e3:(o.at_+1+o.size).toNat=a+1+n:=by omega
 have e4:o.ptrs.toNat=m:=by omega
 have e5:o.size.toNat=n:=by omega
 have g1:((((lsH h q).drop (a+1)).take n).take m)=((lsH h q).take (a+1+m)).drop (a+1):=by
  rw[List.take_take,Zk2];congr 1;omega
 have g2:((((lsH h q).drop (a+1)).take n).drop m)=((lsH h q).take (a+1+n)).drop (a+1+m):=by
  rw[Zk2,Zk2,List.drop_drop];congr 1;omega
 simp only[foRn,foP,rnO,Sb h hq,e1,e2,e3,e4,e5,g1,g2];rfl
def zI(r:Rt h p){q:Nat}(hq:q<4):(((obP h q).map (foP h q)).filter λf=> !f.ob.gone).map foRn=rnL h ((q:Int)+1) (p.at ((q:Int)+1)):=by
 rw[<-r.obQ hq];unfold rnL
 have hf:∀l:List Ob,(∀o∈l,foRn (foP h q o)=rnO h ((q:Int)+1) o)->((l.map (foP h q)).filter λf=> !f.ob.gone).map foRn=(l.filter λo=> !o.gone).map (rnO h ((q:Int)+1)):=by
  intro l
  induction l with
  |nil=>intro _;rfl
  |cons o l ih=>
   intro hl;have i:=ih λx hx=>hl x (by simp[hx]);have e:=hl o (by simp);have hob:(foP h q o).ob=o:=rfl;rw[ZhA,ZkJ,ZkJ];simp only[hob];cases o.gone
   ·simp only[Bool.not_false,ZhR,ZhA,e,i]
   ·simp only[ZjR,Zhk,ZhT,i]
 exact hf _ λo ho=>Zak r hq ho
def Lv(r:Rt h p):(V0 h).ns.map foRn=rnsP h p 4:=by
 rw[Z1x h];have a0:=zI r (q:=0) (by omega);have a1:=zI r (q:=1) (by omega);have a2:=zI r (q:=2) (by omega);have a3:=zI r (q:=3) (by omega);simp only[fos,Zkv,Zic,Zix,Zir,Zi2,Nat.reduceAdd,a0,a1,a2,a3,rnsP,Ziy]
def Zee(r:Rt h p){f:Fo}(hf:f∈fos h 4 0)(hg:f.ob.gone=true):tgtR h p f.ad=f.ob.target:=by
 obtain⟨k,o,_,hk,ho,rfl⟩:=SL hf
 have k2:2<=k:=by
  by_cases hl:k<2
  ·rw[show(foP h k o).ob=o from rfl,r.live12 hl ho]at hg;cases hg
  ·omega
 have o3:obP h 2=p.old:=r.obQ (by omega);have o4:obP h 3=p.far:=r.obQ (by omega)
 have hs:∀(q:Nat) (x:Ob),q<4->x∈obP h q->ZA h ((q:Int)+1) x.at_=(foP h k o).ad->x.target=(foP h k o).ob.target:=λq x hq hx e=>by
  have:=qb r (R1 hx (by omega) (by omega)) hf e;rw[<-this];rfl
 unfold tgtR;cases h1:p.old.find? (gAt h (foP h k o).ad 3)with
 |some x=>
  have hm:=ZiK h1;have hp:=Zjv h1;simp only[gAt,Zhb,ZhG]at hp;exact hs 2 x (by omega) (by rw[o3];exact hm) hp.2
 |none=>
  dsimp only;cases h2:p.far.find? (gAt h (foP h k o).ad 4)with
  |some x=>
   have hm:=ZiK h2;have hp:=Zjv h2;simp only[gAt,Zhb,ZhG]at hp;exact hs 3 x (by omega) (by rw[o4];exact hm) hp.2
  |none=>
   exfalso;have hgo:o.gone=true:=hg;have:k=2\/k=3:=by omega
   obtain rfl|rfl:=this
   ·have:=Zj8.1 h1 o (by rw[<-o3];exact ho);apply this;simp only[gAt,Zhb,ZhG];exact⟨hgo,rfl⟩
   ·have:=Zj8.1 h2 o (by rw[<-o4];exact ho);apply this;simp only[gAt,Zhb,ZhG];exact⟨hgo,rfl⟩
def Zef(r:Rt h p){a:Int}(hn:∀f∈fos h 4 0,f.ob.gone=true->f.ad≠a):tgtR h p a=a:=by
 have o3:obP h 2=p.old:=r.obQ (by omega);have o4:obP h 3=p.far:=r.obQ (by omega);unfold tgtR
 have h1:p.old.find? (gAt h a 3)=none:=Zj8.2 λo ho hp=>by
  simp only[gAt,Zhb,ZhG]at hp;exact hn (foP h 2 o) (R1 (by rw[o3];exact ho) (by omega) (by omega)) hp.1 hp.2
 have h2:p.far.find? (gAt h a 4)=none:=Zj8.2 λo ho hp=>by
  simp only[gAt,Zhb,ZhG]at hp;exact hn (foP h 3 o) (R1 (by rw[o4];exact ho) (by omega) (by omega)) hp.1 hp.2
 rw[h1];dsimp only;rw[h2]
def Z6e(r:Rt h p){w i j:Int}(hi:1<=i/\i<=4)(hj:1<=j/\j<=4)(hw:Gos h p w i j):S6 h p (rnsP h p 4) w=(V0 h).toA w:=by
 by_cases h0:w=0
 ·subst h0;simp[S6,adr,Vw.toA]
 obtain⟨q,o,hq,hk,ho,e,ha⟩:=r.gos hi hj hw h0;have hf:foP h q o∈fos h 4 0:=R1 ho (by omega) (by omega)
 have h2:(adr w).2=0:=by
  have ho':=ho;rw[r.obQ hq]at ho';have:=r.toTld.adr (by omega) ho';have hr:refR (layH h) ((q:Int)+1) o.at_=w:=by rw[e,KY r hq ho];rfl
  rw[hr]at this;rw[this]
 have hl:=Z7r h;rw[Lv r]at hl;have hlen:(V0 h).ns.length=(rnsP h p 4).length:=by rw[<-Lv r,Zi1]
 rw[hlen]at hl;unfold S6 Vw.toA;rw[if_pos h2,if_neg h0,ha,<-hl];cases hg:o.gone
 ·have t1:tgtR h p (foP h q o).ad=(foP h q o).ad:=Zef r λf hf' hg' e'=>by
   rw[qb r hf' hf e',show(foP h q o).ob=o from rfl,hg]at hg';cases hg'
  have t2:getA (V0 h).tm (foP h q o).ad=none:=by
   cases ht:getA (V0 h).tm (foP h q o).ad with
   |none=>rfl
   |some t=>
    obtain⟨g,k1,k2,k3,_⟩:=(Z4y h).t1 _ _ ht;rw[qb r k1 hf k3,show(foP h q o).ob=o from rfl,hg]at k2;cases k2
  obtain⟨n,n1,_⟩:=r.to_nm hf (by exact hg);rw[t1,t2,Option.getD_none,n1];rfl
 ·have h3:2<=q:=by
   by_cases hl:q<2
   ·rw[r.live12 hl ho]at hg;cases hg
   ·omega
  have ho':=ho;rw[r.obQ hq]at ho';obtain⟨t,ht,h4,_⟩:=r.gone ((q:Int)+1) (by omega) o ho' hg;have ht':t∈obP h 0:=by rw[r.obQ (by omega)];exact ht
  obtain⟨n,n1,_⟩:=r.to_nm (f:=foP h 0 t) (R1 ht' (by omega) (by omega)) (r.live12 (by omega) ht');have e4:o.target=(foP h 0 t).ad:=by rw[KY r (by omega) ht'];exact h4
  have t1:=Zee r hf hg;obtain⟨u,hu⟩:=Zid.1 ((Z4y h).t2 _ hf hg);obtain⟨g,k1,k2,k3,k4⟩:=(Z4y h).t1 _ _ hu;rw[qb r k1 hf k3]at k4;have k5:u=(foP h 0 t).ad:=by rw[<-k4,<-e4];rfl
  rw[t1,hu,ZhL,k5,show(foP h q o).ob.target=(foP h 0 t).ad from e4,n1];rfl
def ZdV(r:Rt h p):refG h p=vg h:=by
 unfold refG vg Vw.gr;congr 1
 ·rw[<-Lv r,ZjO];refine ZiY λf hf=> ?_;obtain⟨hf1,hg⟩:=Z69.1 hf;obtain⟨q,o,_,hq,ho,rfl⟩:=SL hf1;obtain⟨a,n,m,h1,h2,h3,h4,h5,h6⟩:=r.ob4 (by omega) ho;have e:=Z5j r (by omega) ho;simp only[Function.comp_apply,foRn,ndF];congr 1;refine ZiY λw hw=> ?_;rw[Lv r];obtain⟨j,hj⟩:=Zhy hw;have hjl:=(Zh9.1 hj).1;rw[Zik]at hjl;have hop:(foP h q o).ob.ptrs=o.ptrs:=rfl;rw[hop]at hj hjl;rw[ZjN (by omega)]at hj;have ho':=ho;rw[r.obQ (by omega)]at ho'
  have hw':(Zh h ((q:Int)+1))[o.at_.toNat+1+j]?=some w:=by
   rw[Sb h (by omega)];simp only[foP]at hj;rw[ZjN (by omega),ZhU]at hj;rw[<-hj];congr 1;omega
  obtain⟨i,k,hi,hk,hG⟩:=Zb5 (r.ptr ((q:Int)+1) (by omega) o ho' hg j (by omega) w hw');exact Z6e r hi hk hG
 ·exact ZiY λw hw=>Z6e r (by omega) (by omega) (r.roots w hw)
end
end
end Vm
end
section
namespace Vm
open Go
open Go.Proofs
def p34:Fn:=⟨10,[0,1,2,3,4,11,5,6,7,18],
pQ [pR [(1,pS 0 2),(2,.m [pN,pN]),pV 3 (pI 0)],pC [pK 10 70 [.mm 1 0 2]] [pV 4 (.s 10)],pQ [pR [pV 5 (.un .not (.s 4))]] (.cond (.s 5) (pQ [.reg ⟨[],[([],.ag [pN,pN])],[(2,.m [pN,pN]),pV 3 (pI 1)]⟩] .ret) .skip),pC [pK 11 71 [.mm 1 0 2]] [pV 6 (.s 11)],pR [(7,.m [pN,pN])],pQ [pR [pV 8 (pI 0)]] (.block 0 (.loop [0,1,2,3,4,5,6,7,8] (pQ [pQ [pR [pV 9 (.bin .lss (.s 8) (.len (.s 6)))]] (.cond (.s 9) .skip (.exit 0)),.block 1 (pC [pK 12 72 [.s 6,.fld (.idx (.m 1 0) (.fld (.idx (.s 6) (.s 8) 1) 0) 2) 0]] [(7,.m [.app (.m 7 0) (.lit [.ag [.one (.s 12),.fld (.idx (.m 1 0) (.fld (.idx (.s 6) (.s 8) 1) 0) 2) 1]]) 2,.m 7 1])])] (pR [pV 8 (.bin .add (.s 8) (pI 1))])))),pC [pK 13 72 [.s 6,.m 1 1]] [(7,.m [.m 7 0,.one (.s 13)])],pR [(2,pM (.mm 7 0 2) 2),pV 3 (pI 0)]] .ret,[(2,(.ag 2)),(3,.v)]⟩
def c34:Za Sol.prog fresh sig [.fz] [] Tryz.f34=some p34:=by kernel_rfl
def p37:Fn:=⟨8,[0,1,2,3,9,4,5,14],
pQ [pR [(1,pS 0 2),pV 2 (pI 0)],pC [pK 8 70 [.mm 1 0 2]] [pV 3 (.s 8)],pQ [pR [pV 4 (.un .not (.s 3))]] (.cond (.s 4) (pQ [pR [pV 2 (pI 0)]] .ret) .skip),pR [pV 5 (pI 0)],pQ [pR [pV 6 (pI 0)]] (.block 0 (.loop [0,1,2,3,4,5,6] (pQ [pQ [pR [pV 7 (.bin .lss (.s 6) (.len (.m 1 0)))]] (.cond (.s 7) .skip (.exit 0)),.block 1 (pR [pV 5 (.bin .add (.bin .add (.bin .add (.s 5) (pI 1)) (.len (.fld (.idx (.m 1 0) (.s 6) 2) 0))) (.len (.fld (.idx (.m 1 0) (.s 6) 2) 1)))])] (pR [pV 6 (.bin .add (.s 6) (pI 1))])))),pR [pV 2 (.s 5)]] .ret,[(2,.v)]⟩
def c37:Za Sol.prog fresh sig [.fz] [] Tryz.f37=some p37:=by kernel_rfl
def p70:Fn:=⟨14,[0,1,2,10,3,15,27,4,32,5,47,6,52,64],
pQ [pR [(1,pS 0 2),pV 2 pF],pQ [pR [pV 3 (.bin .gtr (.len (.m 1 1)) (pI 16))]] (.cond (.s 3) (pQ [pR [pV 2 pF]] .ret) .skip),pQ [pR [pV 4 (pI 0)]] (.block 0 (.loop [0,1,2,3,4] (pQ [pQ [pR [pV 5 (.bin .lss (.s 4) (.len (.m 1 1)))]] (.cond (.s 5) .skip (.exit 0)),.block 1 (pQ [pC [pK 14 92 [.fld (.idx (.m 1 1) (.s 4) 1) 0,.len (.m 1 0)]] [pV 6 (.un .not (.s 14))]] (.cond (.s 6) (pQ [pR [pV 2 pF]] .ret) .skip))] (pR [pV 4 (.bin .add (.s 4) (pI 1))])))),pQ [pR [pV 7 (pI 0)]] (.block 2 (.loop [0,1,2,3,4,5,7] (pQ [pQ [pR [pV 8 (.bin .lss (.s 7) (.len (.m 1 0)))]] (.cond (.s 8) .skip (.exit 2)),.block 3 (pQ [pR [(9,pM (.flds (.idx (.m 1 0) (.s 7) 2) 0 2) 2)],pQ [pR [pV 10 (.bin .gtr (.bin .add (.len (.m 9 0)) (.len (.m 9 1))) (pI 255))]] (.cond (.s 10) (pQ [pR [pV 2 pF]] .ret) .skip),pR [pV 11 (pI 0)]] (.block 4 (.loop [0,1,2,3,4,5,7,8,9,10,11] (pQ [pQ [pR [pV 12 (.bin .lss (.s 11) (.len (.m 9 0)))]] (.cond (.s 12) .skip (.exit 4)),.block 5 (pQ [pC [pK 15 92 [.fld (.idx (.m 9 0) (.s 11) 1) 0,.len (.m 1 0)]] [pV 13 (.un .not (.s 15))]] (.cond (.s 13) (pQ [pR [pV 2 pF]] .ret) .skip))] (pR [pV 11 (.bin .add (.s 11) (pI 1))])))))] (pR [pV 7 (.bin .add (.s 7) (pI 1))])))),pR [pV 2 pT]] .ret,[(2,.v)]⟩
def c70:Za Sol.prog fresh sig [.fz] [] Tryz.f70=some p70:=by kernel_rfl
def p71:Fn:=⟨8,[0,1,2,3,9,4,5,16],
pQ [pR [(1,pS 0 2),pV 2 pN],pC [pK 8 70 [.mm 1 0 2]] [pV 3 (.s 8)],pQ [pR [pV 4 (.un .not (.s 3))]] (.cond (.s 4) (pQ [pR []] .ret) .skip),pC [pK 9 93 [pN,.m 1 1]] [pV 5 (.s 9)],pQ [pR [pV 6 (pI 0)]] (.block 0 (.loop [0,1,2,3,4,5,6] (pQ [pQ [pR [pV 7 (.bin .lss (.s 6) (.len (.s 5)))]] (.cond (.s 7) .skip (.exit 0)),.block 1 (pC [pK 10 93 [.s 5,.fld (.idx (.m 1 0) (.fld (.idx (.s 5) (.s 6) 1) 0) 2) 0]] [pV 5 (.s 10)])] (pR [pV 6 (.bin .add (.s 6) (pI 1))])))),pR [pV 2 (.s 5)]] .ret,[(2,.v)]⟩
def c71:Za Sol.prog fresh sig [.fz] [] Tryz.f71=some p71:=by kernel_rfl
def p72:Fn:=⟨6,[0,1,4,5,6,10],
pQ [pR [pV 2 pN],pR [pV 3 pN],pQ [pR [pV 4 (pI 0)]] (.block 0 (.loop [0,1,2,3,4] (pQ [pQ [pR [pV 5 (.bin .lss (.s 4) (.len (.s 1)))]] (.cond (.s 5) .skip (.exit 0)),.block 1 (pC [pK 6 94 [.s 0,.fld (.idx (.s 1) (.s 4) 1) 0]] [pV 3 (.app (.s 3) (.lit [.one (.s 6)]) 1)])] (pR [pV 4 (.bin .add (.s 4) (pI 1))])))),pR [pV 2 (.s 3),(3,.no)]] .ret,[(2,.v)]⟩
def c72:Za Sol.prog fresh sig [.fz,.fz] [] Tryz.f72=some p72:=by kernel_rfl
def p92:Fn:=⟨3,[0,1,4],
pQ [pR [pV 2 pF],.reg ⟨[.lt 3 [] (.bin .geq (.s 0) (pI (-1)))],[([(3,true)],.bin .lss (.s 0) (.s 1))],[pV 2 (.ite (.s 3) (.bin .lss (.s 0) (.s 1)) pF)]⟩] .ret,[(2,.v)]⟩
def c92:Za Sol.prog fresh sig [.fz,.fz] [] Tryz.f92=some p92:=by kernel_rfl
def p93:Fn:=⟨7,[0,1,4,5,6,12,28],
pQ [pR [pV 2 pN],pR [pV 3 (.app pN (.s 0) 1)],pQ [pR [pV 4 (pI 0)]] (.block 0 (.loop [0,1,2,3,4] (pQ [pQ [pR [pV 5 (.bin .lss (.s 4) (.len (.s 1)))]] (.cond (.s 5) .skip (.exit 0)),.block 1 (pQ [.reg ⟨[.lt 7 [] (.bin .geq (.fld (.idx (.s 1) (.s 4) 1) 0) (pI 0)),.call 8 [(7,true)] (.id 94) false true [.s 3,.fld (.idx (.s 1) (.s 4) 1) 0]],[([(7,true)],.bin .lss (.s 8) (pI 0))],[pV 6 (.ite (.s 7) (.bin .lss (.s 8) (pI 0)) pF)]⟩] (.cond (.s 6) (pR [pV 3 (.app (.s 3) (.lit [.fld (.idx (.s 1) (.s 4) 1) 0]) 1)]) .skip))] (pR [pV 4 (.bin .add (.s 4) (pI 1))])))),pR [pV 2 (.s 3),(3,.no)]] .ret,[(2,.v)]⟩
def c93:Za Sol.prog fresh sig [.fz,.fz] [] Tryz.f93=some p93:=by kernel_rfl
def p94:Fn:=⟨6,[0,1,4,5,9,17],
pQ [pR [pV 2 (pI 0)],pQ [pR [pV 3 (pI 0)]] (.block 0 (.loop [0,1,2,3] (pQ [pQ [pR [pV 4 (.bin .lss (.s 3) (.len (.s 0)))]] (.cond (.s 4) .skip (.exit 0)),.block 1 (pQ [pR [pV 5 (.bin .eql (.fld (.idx (.s 0) (.s 3) 1) 0) (.s 1))]] (.cond (.s 5) (pQ [pR [pV 2 (.s 3)]] .ret) .skip))] (pR [pV 3 (.bin .add (.s 3) (pI 1))])))),pR [pV 2 (pI (-1))]] .ret,[(2,.v)]⟩
def c94:Za Sol.prog fresh sig [.fz,.fz] [] Tryz.f94=some p94:=by kernel_rfl
end Vm
end
section
namespace Vm
open Go Go.Proofs
def Zd4{p:Int}{n:Nat}:VC Sol.prog 92 false [vi p,vi n] (.bool (inR n p)):=by
 refine Z5 Sol.func92 follows (by kernel_rfl) c92 rfl ?_;by_cases h1: -1<=p
 ·by_cases h2:p<n<;>simp[p92,inR,h1,h2]
 ·simp[p92,inR,h1]
def Ua{g:Gr}(hg:g.sm):VC Sol.prog 70 false [grV g] (.bool (right g)):=by
 obtain⟨hg1,hg2,hg3⟩:=hg;refine Z5 Sol.func70 follows (by kernel_rfl) c70 rfl ?_;simp[-List.all_eq_true,-List.all_eq_false,p70];split
 ·rename_i h;simp[-List.all_eq_true,-List.all_eq_false,right,show ¬g.roots.length<=16 by omega]
 ·rename_i h;refine ZK (λt=>∃i:Nat,i<=g.roots.length/\(g.roots.take i).all (inR g.nodes.length)=true/\t=[.v (grV g),.m [.sl (g.nodes.map ndV),.sl (g.roots.map vi)],.v (.bool false),.v (.bool false),.v (vi i)]) (λt=>match get t 4 with|.v (.int _ n)=>g.roots.length-n.toNat|_=>0) ?_ ?_
  ·exact⟨0,by simp,by simp,by simp[h]⟩
  ·rintro t ⟨i,hi,hall,rfl⟩;by_cases hlt:i<g.roots.length
   ·have hx:g.roots[i]?=some g.roots[i]:=Zh8 hlt;have hw:=Z4 ((i:Int)+1) (by omega) (by omega);simp[-List.all_eq_true,-List.all_eq_false,hlt];refine Z0 Zd4 (by simp) ?_;cases hb:inR g.nodes.length g.roots[i]
    ·simp[-List.all_eq_true,-List.all_eq_false,right,YR hx hb]
    ·simp[-List.all_eq_true,-List.all_eq_false,hw];exact⟨⟨i+1,by omega,by rw[X0 hx,hall,hb];rfl,by simp⟩,by omega⟩
   ·have:i=g.roots.length:=by omega
    subst this;rw[ZhS]at hall;simp[-List.all_eq_true,-List.all_eq_false];refine ZK (λt=>∃(i:Nat) (x8:SV),i<=g.nodes.length/\(g.nodes.take i).all (VE g.nodes.length)=true/\t=[.v (grV g),.m [.sl (g.nodes.map ndV),.sl (g.roots.map vi)],.v (.bool false),.v (.bool false),.v (vi g.roots.length),.v (.bool false),.no,.v (vi i)]) (λt=>match get t 7 with|.v (.int _ n)=>g.nodes.length-n.toNat|_=>0) ?_ ?_
    ·exact⟨0,.no,by simp,by simp,by simp[h]⟩
    ·rintro t ⟨i,x8,hi,hall2,rfl⟩;by_cases hlt:i<g.nodes.length
     ·have hx:g.nodes[i]?=some g.nodes[i]:=Zh8 hlt;obtain⟨h1,h2⟩:=hg3 _ (Zhi hlt);have hw:=Z4 ((i:Int)+1) (by omega) (by omega);simp[-List.all_eq_true,-List.all_eq_false,hlt];generalize g.nodes[i]=x at*;have hno:VE g.nodes.length x=false->right g=false:=λh0=>by simp[-List.all_eq_true,-List.all_eq_false,right,YR hx h0]
      have hws:=Z4 ((x.ptrs.length:Int)+x.data.length) (by omega) (by omega);rw[hws];split
      ·exact hno (by simp[-List.all_eq_true,-List.all_eq_false,VE];intro;omega)
      ·rename_i hsz;refine ZK (λt=>∃k:Nat,k<=x.ptrs.length/\(x.ptrs.take k).all (inR g.nodes.length)=true/\t=[.v (grV g),.m [.sl (g.nodes.map ndV),.sl (g.roots.map vi)],.v (.bool false),.v (.bool false),.v (vi g.roots.length),.v (.bool false),.no,.v (vi i),.v (.bool true),.m [.sl (x.ptrs.map vi),.sl (x.data.map vu)],.v (.bool false),.v (vi k)]) (λt=>match get t 11 with|.v (.int _ n)=>x.ptrs.length-n.toNat|_=>0) ?_ ?_
       ·exact⟨0,by simp,by simp,by simp[hsz]⟩
       ·rintro t ⟨k,hk,hall3,rfl⟩;by_cases hkt:k<x.ptrs.length
        ·have hp:x.ptrs[k]?=some x.ptrs[k]:=Zh8 hkt;have hwk:=Z4 ((k:Int)+1) (by omega) (by omega);simp[-List.all_eq_true,-List.all_eq_false,hkt];refine Z0 Zd4 (by simp) ?_;cases hb:inR g.nodes.length x.ptrs[k]
         ·simp[-List.all_eq_true,-List.all_eq_false];exact hno (by simp[-List.all_eq_true,-List.all_eq_false,VE,YR hp hb])
         ·simp[-List.all_eq_true,-List.all_eq_false,hwk];exact⟨⟨k+1,by omega,by rw[X0 hp,hall3,hb];rfl,by simp⟩,by omega⟩
        ·have:k=x.ptrs.length:=by omega
         subst this;rw[ZhS]at hall3;simp[-List.all_eq_true,-List.all_eq_false,hw];refine⟨⟨i+1,by omega,?_,by simp⟩,by omega⟩;rw[X0 hx,hall2];simp[-List.all_eq_true,-List.all_eq_false,VE,hall3];omega
     ·have:i=g.nodes.length:=by omega
      subst this;rw[ZhS]at hall2;simp[-List.all_eq_true,-List.all_eq_false,right,hall,hall2];omega
def Z1h{g:Gr}(hg:g.sm):VC Sol.prog 37 false [grV g] (vi (words g)):=by
 refine Z5 Sol.func37 follows (by kernel_rfl) c37 rfl ?_;simp[p37];refine Z0 (Ua hg) (by simp) ?_;cases hr:right g
 ·simp[words,hr]
 ·obtain⟨hg1,hg2,hg3⟩:=hg;simp;refine ZK (λt=>∃i:Nat,i<=g.nodes.length/\t=[.v (grV g),.m [.sl (g.nodes.map ndV),.sl (g.roots.map vi)],.v (vi 0),.v (.bool true),.v (.bool false),.v (vi (wsum (g.nodes.take i):Nat)),.v (vi i)]) (λt=>match get t 6 with|.v (.int _ n)=>g.nodes.length-n.toNat|_=>0) ?_ ?_
  ·exact⟨0,by simp,by simp[wsum]⟩
  ·rintro t ⟨i,hi,rfl⟩;by_cases h:i<g.nodes.length
   ·have hx:g.nodes[i]?=some g.nodes[i]:=Zh8 h;obtain⟨h1,h2⟩:=hg3 _ (Zhi h);have hs:=jR hx;have hle:=Z7w hg3 (i+1);have hle2:g.nodes.length*200001<=100000*200001:=ZhD _ hg1;simp[h];generalize g.nodes[i]=x at*;have hw:=Z4 ((i:Int)+1) (by omega) (by omega);unfold ndW at hs;have hw1:=Z4 ((wsum (g.nodes.take i):Int)+1) (by omega) (by omega);have hw2:=Z4 ((wsum (g.nodes.take i):Int)+1+x.ptrs.length) (by omega) (by omega);have hw3:=Z4 ((wsum (g.nodes.take i):Int)+1+x.ptrs.length+x.data.length) (by omega) (by omega);simp[hw,hw1,hw2,hw3];exact⟨⟨i+1,by omega,by rw[hs];omega,by simp⟩,by omega⟩
   ·have:i=g.nodes.length:=by omega
    subst this;simp[words,hr]
def WP(l:List Int)(p:Int):Int:=match l.findIdx? (· ==p)with
 |some i=>(i:Nat)
 |none=> -1
def To{l:List Int}{p:Int}(h:p∉l):WP l p= -1:=by
 unfold WP;rw[YV.2 h]
def Lm{l:List Int}{p:Int}(h:p∈l):WP l p=at0 l p:=by
 unfold WP at0;cases hf:l.findIdx? (· ==p)with
 |none=>exact(YV.1 hf h).elim
 |some i=>rfl
def Ln{l:List Int}{p:Int}:WP l p<0↔p∉l:=by
 constructor
 ·intro h hm;rw[Lm hm]at h;have:=(Za1 hm).1;omega
 ·intro h;rw[To h];omega
def jh{l:List Int}{p:Int}{i:Nat}(h:p∉l.take i)(hx:l[i]?=some p):WP l p=i:=by
 have hi:i<l.length:=(Zh9.1 hx).1
 have:l.findIdx? (· ==p)=some i:=by
  rw[ZhQ];refine⟨hi,by have:=(Zh9.1 hx).2;simp[this],λj hj=> ?_⟩;simp only[ZhG];intro e;exact h (List.mem_take_iff_getElem.2 ⟨j,by omega,e⟩)
 unfold WP;rw[this]
def Z2r{l:List Int}{p:Int}(hl:l.length<=1000000):VC Sol.prog 94 false [.sl (l.map vi),vi p] (vi (WP l p)):=by
 refine Z5 Sol.func94 follows (by kernel_rfl) c94 rfl ?_;simp[p94];refine ZK (λt=>∃i:Nat,i<=l.length/\p∉l.take i/\t=[.v (.sl (l.map vi)),.v (vi p),.v (vi 0),.v (vi i)]) (λt=>match get t 3 with|.v (.int _ n)=>l.length-n.toNat|_=>0) ?_ ?_
 ·exact⟨0,by simp,by simp,by simp⟩
 ·rintro t ⟨i,hi,hn,rfl⟩;by_cases h:i<l.length
  ·have hx:l[i]?=some l[i]:=Zh8 h;have hw:=Z4 ((i:Int)+1) (by omega) (by omega);by_cases hp:l[i]=p
   ·simp[h,hp];rw[jh hn (by rw[hx,hp])]
   ·simp[h,hp,hw];refine⟨⟨i+1,by omega,?_,by simp⟩,by omega⟩;rw[ZhM,hx,Zhx];rintro(h1|h1)
    ·exact hn h1
    ·have:p=l[i]:=by simpa using h1
     exact hp this.symm
  ·have:i=l.length:=by omega
   subst this;rw[ZhS]at hn;simp[To hn]
def Z6c{l ps:List Int}(hl:l.length<=500000)(hp:ps.length<=100000):VC Sol.prog 93 false [.sl (l.map vi),.sl (ps.map vi)] (.sl ((Yf l ps).map vi)):=by
 refine Z5 Sol.func93 follows (by kernel_rfl) c93 rfl ?_;have hll:l.length<=lim:=by simp[lim];omega
 simp[p93,hll];refine ZK (λt=>∃(i:Nat) (o:List Int),i<=ps.length/\Yf o (ps.drop i)=Yf l ps/\o.length<=l.length+i/\t=[.v (.sl (l.map vi)),.v (.sl (ps.map vi)),.v (.sl []),.v (.sl (o.map vi)),.v (vi i)]) (λt=>match get t 4 with|.v (.int _ n)=>ps.length-n.toNat|_=>0) ?_ ?_
 ·exact⟨0,l,by simp,by simp,by omega,by simp⟩
 ·rintro t ⟨i,o,hi,hn,hol,rfl⟩;by_cases h:i<ps.length
  ·have hd:ps.drop i=ps[i]::ps.drop (i+1):=ZhZ h;have hw:=Z4 ((i:Int)+1) (by omega) (by omega);rw[hd]at hn;simp only[Yf]at hn;by_cases h0:0<=ps[i]
   ·simp[h,h0];refine Z0 (Z2r (p:=ps[i]) (by omega)) (by simp[flV,V.flatc]) ?_;by_cases hm:ps[i]∈o
    ·have:=Ln (l:=o) (p:=ps[i]);have h3:¬WP o ps[i] <0:=λhh=>this.1 hh hm;rw[if_neg (by simp[hm])]at hn;simp[h3,hw];exact⟨⟨i+1,by omega,o,hn,by omega,rfl,by simp⟩,by omega⟩
    ·have h3:WP o ps[i] <0:=Ln.2 hm;rw[if_pos ⟨h0,hm⟩]at hn;simp[h,h3,hw];exact⟨by simp[lim];omega,⟨i+1,by omega,o++[ps[i]],hn,by simp;omega,by simp,by simp⟩,by omega⟩
   ·rw[if_neg (by omega)]at hn;simp[h,h0,hw];exact⟨⟨i+1,by omega,o,hn,by omega,rfl,by simp⟩,by omega⟩
  ·have:i=ps.length:=by omega
   subst this;simp[Yf]at hn;subst hn;simp
def Z1e{g:Gr}(hg:g.sm):VC Sol.prog 71 false [grV g] (.sl ((Z2l g).map vi)):=by
 refine Z5 Sol.func71 follows (by kernel_rfl) c71 rfl ?_;simp[p71];refine Z0 (Ua hg) (by simp) ?_;cases hr:right g
 ·simp[Z2l,hr]
 ·obtain⟨hg1,hg2,hg3⟩:=hg;have hroots:=W9 hr;have hgood:Good g.nodes.length (Yf [] g.roots):=YD ⟨by simp,by simp⟩ λx hx=>(hroots x hx).2;have hm:=Z6c (l:=[]) (ps:=g.roots) (by simp) hg2;simp at hm;simp;refine Z0 hm (by simp) ?_;simp;refine ZK (λt=>∃(i:Nat) (l:List Int),i<=l.length/\Good g.nodes.length l/\WO g (g.nodes.length+1-i) i l=order g/\t=[.v (grV g),.m [.sl (g.nodes.map ndV),.sl (g.roots.map vi)],.v (.sl []),.v (.bool true),.v (.bool false),.v (.sl (l.map vi)),.v (vi i)]) (λt=>match get t 6 with|.v (.int _ n)=>g.nodes.length-n.toNat|_=>0) ?_ ?_
  ·exact⟨0,_,by simp,hgood,rfl,by simp⟩
  ·rintro t ⟨i,l,hi,hl,ho,rfl⟩;have hlen:=hl.len;by_cases h:i<l.length
   ·obtain⟨x0,x1⟩:=hl.2 _ (Zhi h);obtain⟨k,hk⟩:=Zhl x0;have hkl:k<g.nodes.length:=by omega
    have hx:l[i]?=some (k:Int):=by rw[Zh8 h,hk]
    have hw:=Z4 ((i:Int)+1) (by omega) (by omega);simp[h,hk,hkl];refine Z0 (Z6c (by omega) (hg3 _ (Zhi hkl)).1) (by simp) ?_;have hgood':Good g.nodes.length (Yf l g.nodes[k].ptrs):=YD hl λx hx=>(WT hr _ (Zhi hkl) x hx).2;simp[hw];refine⟨⟨i+1,_,?_,hgood',?_,rfl,by simp⟩,by omega⟩
    ·obtain⟨t,ht⟩:=Jq g.nodes[k].ptrs (acc:=l);rw[ht,Zin];omega
    ·rw[show g.nodes.length+1-i=(g.nodes.length+1- (i+1))+1 by omega,WO,hx]at ho;simpa[hkl]using ho
   ·have:i=l.length:=by omega
    subst this
    have hol:l=order g:=by
     rw[<-ho];cases hf:g.nodes.length+1-l.length with
     |zero=>omega
     |succ f=>simp[WO]
    subst hol;simp[Z2l,hr]
def Z2i{l ps:List Int}(hl:l.length<=1000000)(hp:ps.length<=100000):VC Sol.prog 72 false [.sl (l.map vi),.sl (ps.map vi)] (.sl ((ps.map (WP l)).map vi)):=by
 refine Z5 Sol.func72 follows (by kernel_rfl) c72 rfl ?_;simp[p72];refine ZK (λt=>∃i:Nat,i<=ps.length/\t=[.v (.sl (l.map vi)),.v (.sl (ps.map vi)),.v (.sl []),.v (.sl ((ps.map (vi∘WP l)).take i)),.v (vi i)]) (λt=>match get t 4 with|.v (.int _ n)=>ps.length-n.toNat|_=>0) ?_ ?_
 ·exact⟨0,by simp,by simp⟩
 ·rintro t ⟨i,hi,rfl⟩;have hw:=Z4 ((i:Int)+1) (by omega) (by omega);by_cases h:i<ps.length
  ·have hx:ps[i]?=some ps[i]:=Zh8 h;simp[h];refine Z0 (Z2r (by omega)) (by simp) ?_;simp[hw];exact⟨by simp[lim];omega,⟨i+1,by omega,Z2L hx rfl,by simp⟩,by omega⟩
  ·have:i=ps.length:=by omega
   subst this;simp
def qR{g:Gr}(hr:right g=true){ps:List Int}(hps:∀p∈ps,-1<=p/\(0<=p->p∈order g)):ps.map (WP (order g))=XC (order g) ps:=by
 unfold XC;refine ZiY λp hp=> ?_;obtain⟨h1,h2⟩:=hps p hp;split
 ·rename_i h0;exact Lm (h2 h0)
 ·have:p= -1:=by omega
  subst this;exact To λhm=>by have:=((Uu hr).2 _ hm).1;omega
def Z1c{g:Gr}(hg:g.sm):VC Sol.prog 34 false [grV g] (YI g):=by
 refine Z5 Sol.func34 follows (by kernel_rfl) c34 rfl ?_;have hO:=Z1e hg;simp[p34];refine Z0 (Ua hg) (by simp) ?_;cases hr:right g
 ·simp[YI,hr,noGr,grV]
 ·rw[show Z2l g=order g from if_pos hr]at hO;simp;refine Z0 hO (by simp) ?_;obtain⟨hg1,hg2,hg3⟩:=hg;have hgood:=Uu hr;have hlen:=hgood.len;have hlr:=λx hx=>Z5X (x:=x) hr hx;have hlo:=λx y hx hy=>Z8d (x:=x) (y:=y) hr hx hy;have hnm:=λps=>qR (ps:=ps) hr;have hcan:LY g=⟨(order g).map (VR g (order g)),XC (order g) g.roots⟩:=rfl;generalize order g=l at*;simp;refine ZK (λt=>∃i:Nat,i<=l.length/\t=[.v (grV g),.m [.sl (g.nodes.map ndV),.sl (g.roots.map vi)],.m [.sl [],.sl []],.v (vi 0),.v (.bool true),.v (.bool false),.v (.sl (l.map vi)),.m [.sl ((l.map (ndV∘VR g l)).take i),.sl []],.v (vi i)]) (λt=>match get t 8 with|.v (.int _ n)=>l.length-n.toNat|_=>0) ?_ ?_
  ·exact⟨0,by simp,by simp⟩
  ·rintro t ⟨i,hi,rfl⟩;have hw:=Z4 ((i:Int)+1) (by omega) (by omega);by_cases h:i<l.length
   ·have hx:l[i]?=some l[i]:=Zh8 h;have hxm:=Zhi h;obtain⟨x0,x1⟩:=hgood.2 _ hxm;obtain⟨k,hk⟩:=Zhl x0;have hkl:k<g.nodes.length:=by omega
    obtain⟨s1,s2⟩:=hg3 _ (Zhi hkl);have ho:outs g l[i]=g.nodes[k].ptrs:=by unfold outs;rw[hk];simp[hkl]
    simp[h,hk,hkl];refine Z0 (Z2i (by omega) s1) (by simp) ?_;rw[hnm _ λp hp=>⟨(WT hr _ (Zhi hkl) p hp).1,λh0=>hlo _ p hxm (by rw[ho];exact hp) h0⟩];simp[h,hk,hkl,hw];exact⟨by simp[lim];omega,⟨i+1,by omega,Z2L hx (by simp[VR,hk,hkl,ndV]),by simp⟩,by omega⟩
   ·have:i=l.length:=by omega
    subst this;simp;refine Z0 (Z2i (by omega) hg2) (by simp) ?_;rw[hnm _ λp hp=>⟨(W9 hr p hp).1,hlr p hp⟩];simp[YI,hr,hcan];simp[grV]
end Vm
end
section
namespace Vm
open Go
open Go.Proofs
def p11:Fn:=⟨10,[0,1,2,3,4,11,5,6,7,18],
pQ [pR [(1,pS 0 10),(2,.m [pN,pN]),pV 3 (pI 0)],pC [pK 10 31 [.mm 1 0 10]] [pV 4 (.s 10)],pQ [pR [pV 5 (.un .not (.s 4))]] (.cond (.s 5) (pQ [.reg ⟨[],[([],.ag [pN,pN])],[(2,.m [pN,pN]),pV 3 (pI 1)]⟩] .ret) .skip),pC [pK 11 32 [.mm 1 0 10]] [pV 6 (.s 11)],pR [(7,.m [pN,pN])],pQ [pR [pV 8 (pI 0)]] (.block 0 (.loop [0,1,2,3,4,5,6,7,8] (pQ [pQ [pR [pV 9 (.bin .lss (.s 8) (.len (.s 6)))]] (.cond (.s 9) .skip (.exit 0)),.block 1 (pC [pK 12 33 [.mm 1 0 10,.s 6,.fld (.idx (.s 6) (.s 8) 3) 1]] [(7,.m [.app (.m 7 0) (.lit [.ag [.one (.s 12),.fld (.idx (.s 6) (.s 8) 3) 2]]) 2,.m 7 1])])] (pR [pV 8 (.bin .add (.s 8) (pI 1))])))),pC [pK 13 33 [.mm 1 0 10,.s 6,.m 1 9]] [(7,.m [.m 7 0,.one (.s 13)])],pC [pK 14 34 [.mm 7 0 2]] [(2,pM (.sz (.ext (.s 14) 0) 2) 2),pV 3 (.fl (.ext (.s 14) 1))]] .ret,[(2,(.ag 2)),(3,.v)]⟩
def c11:Za Sol.prog fresh sig [.fz] [] Tryz.f11=some p11:=by kernel_rfl
def p14:Fn:=⟨5,[0,1,2,3,4],
pQ [pR [(1,pS 0 10),pV 2 (pI 0)],pC [pK 5 11 [.mm 1 0 10]] [(3,pM (.sz (.ext (.s 5) 0) 2) 2),pV 4 (.ext (.s 5) 1)],pC [pK 6 37 [.mm 3 0 2]] [pV 2 (.s 6)]] .ret,[(2,.v)]⟩
def c14:Za Sol.prog fresh sig [.fz] [] Tryz.f14=some p14:=by kernel_rfl
def p32:Fn:=⟨14,[0,1,2,3,4,5,6,17,7,8,29,9,41,10],
pQ [pR [(1,pS 0 10),pV 2 pN],pR [pV 3 pN],pC [pK 14 61 [.mm 1 0 10]] [pV 4 (.ext (.s 14) 0),pV 5 (.ext (.s 14) 1)],pQ [pR [pV 6 (pI 1)]] (.block 0 (.loop [0,1,2,3,4,5,6] (pQ [pQ [pR [pV 7 (.bin .leq (.s 6) (pI 4))]] (.cond (.s 7) .skip (.exit 0)),.block 1 (pQ [pC [pK 15 7 [.mm 1 0 10,.s 6]] [pV 8 (.s 15)],pR [pV 9 (pI 0)]] (.block 2 (.loop [0,1,2,3,4,5,6,7,8,9] (pQ [pQ [pR [pV 10 (.bin .lss (.s 9) (.len (.fld (.idx (.s 4) (.s 6) 1) 0)))]] (.cond (.s 10) .skip (.exit 2)),.block 3 (pQ [pR [(11,pM (.flds (.idx (.fld (.idx (.s 4) (.s 6) 1) 0) (.s 9) 5) 0 5) 5)],pR [pV 12 (.un .not (.m 11 3))]] (.cond (.s 12) (pQ [pR [pV 13 (.bin .add (.bin .add (.m 11 0) (pI 1)) (.m 11 2))]] (pC [pK 16 67 [.mm 1 0 10,.s 6,.mm 11 0 5]] [pV 3 (.app (.s 3) (.lit [.ag [.one (.s 16),.slc (.s 8) (.bin .add (.m 11 0) (pI 1)) (.s 13) 1,.slc (.s 8) (.s 13) (.bin .add (.bin .add (.m 11 0) (pI 1)) (.m 11 1)) 1]]) 3)])) .skip))] (pR [pV 9 (.bin .add (.s 9) (pI 1))])))))] (pR [pV 6 (.bin .add (.s 6) (pI 1))])))),pR [pV 2 (.s 3),(3,.no)]] .ret,[(2,.v)]⟩
def c32:Za Sol.prog fresh sig [.fz] [] Tryz.f32=some p32:=by kernel_rfl
def p33:Fn:=⟨15,[0,1,2,3,6,7,8,17,9,10,11,12,13,34,47],
pQ [pR [(3,pS 0 10),pV 4 pN],pR [pV 5 pN],pQ [pR [pV 6 (pI 0)]] (.block 0 (.loop [0,1,2,3,4,5,6] (pQ [pQ [pR [pV 7 (.bin .lss (.s 6) (.len (.s 2)))]] (.cond (.s 7) .skip (.exit 0)),.block 1 (pQ [pR [pV 8 (pI (-1))],pC [pK 15 68 [.fld (.idx (.s 2) (.s 6) 1) 0]] [pV 9 (.ext (.s 15) 0),pV 10 (.ext (.s 15) 1)],pC [pK 16 69 [.mm 3 0 10,.s 9]] [pV 11 (.s 16)],pQ [pR [pV 12 (pI 0)]] (.block 2 (.loop [0,1,2,3,4,5,6,7,8,9,10,11,12] (pQ [pQ [pR [pV 13 (.bin .lss (.s 12) (.len (.s 1)))]] (.cond (.s 13) .skip (.exit 2)),.block 3 (pQ [.reg ⟨[.lt 17 [] (.bin .eql (.s 10) (pI 0))],[([(17,true)],.bin .eql (.fld (.idx (.s 1) (.s 12) 3) 0) (.s 11))],[pV 14 (.ite (.s 17) (.bin .eql (.fld (.idx (.s 1) (.s 12) 3) 0) (.s 11)) pF)]⟩] (.cond (.s 14) (pR [pV 8 (.s 12)]) .skip))] (pR [pV 12 (.bin .add (.s 12) (pI 1))]))))] (pR [pV 5 (.app (.s 5) (.lit [.one (.s 8)]) 1)]))] (pR [pV 6 (.bin .add (.s 6) (pI 1))])))),pR [pV 4 (.s 5),(5,.no)]] .ret,[(4,.v)]⟩
def c33:Za Sol.prog fresh sig [.fz,.fz,.fz] [] Tryz.f33=some p33:=by kernel_rfl
def p67:Fn:=⟨8,[0,1,2,3,5,6,7,8],
pQ [pR [(3,pS 0 10),(4,pS 2 5),pV 5 (pU 0)],pC [pK 8 41 [.mm 3 0 10],pK 9 40 [.s 8,.ag [.one (.s 1),.m 4 0]]] [pV 6 (.ext (.s 9) 0),pV 7 (.ext (.s 9) 1)],pR [pV 5 (.s 6)]] .ret,[(5,.v)]⟩
def c67:Za Sol.prog fresh sig [.fz,.fz,.fz] [] Tryz.f67=some p67:=by kernel_rfl
def p69:Fn:=⟨11,[0,1,2,4,5,6,7,15,8,24,48],
pQ [pR [(2,pS 0 10),pV 3 (pU 0)],pC [pK 11 61 [.mm 2 0 10]] [pV 4 (.ext (.s 11) 0),pV 5 (.ext (.s 11) 1)],pQ [pR [pV 6 (pI 3)]] (.block 0 (.loop [0,1,2,3,4,5,6] (pQ [pQ [pR [pV 7 (.bin .leq (.s 6) (pI 4))]] (.cond (.s 7) .skip (.exit 0)),.block 1 (pQ [pR [pV 8 (pI 0)]] (.block 2 (.loop [0,1,2,3,4,5,6,7,8] (pQ [pQ [pR [pV 9 (.bin .lss (.s 8) (.len (.fld (.idx (.s 4) (.s 6) 1) 0)))]] (.cond (.s 9) .skip (.exit 2)),.block 3 (pQ [.reg ⟨[.lt 12 [] (.fld (.idx (.fld (.idx (.s 4) (.s 6) 1) 0) (.s 8) 5) 3),.call 13 [(12,true)] (.id 67) false false [.mm 2 0 10,.s 6,.flds (.idx (.fld (.idx (.s 4) (.s 6) 1) 0) (.s 8) 5) 0 5]],[([(12,true)],.bin .eql (.s 13) (.s 1))],[pV 10 (.ite (.s 12) (.bin .eql (.s 13) (.s 1)) pF)]⟩] (.cond (.s 10) (pQ [pR [pV 3 (.fld (.idx (.fld (.idx (.s 4) (.s 6) 1) 0) (.s 8) 5) 4)]] .ret) .skip))] (pR [pV 8 (.bin .add (.s 8) (pI 1))])))))] (pR [pV 6 (.bin .add (.s 6) (pI 1))])))),pR [pV 3 (.s 1)]] .ret,[(3,.v)]⟩
def c69:Za Sol.prog fresh sig [.fz,.fz] [] Tryz.f69=some p69:=by kernel_rfl
end Vm
end
section
namespace Vm
open Go Go.Proofs
def rnV(n:Rn):V:=.agg [vu n.ad,.sl (n.ps.map vu),.sl (n.ds.map vu)]
@[simp]def ZdX(n:Rn):(rnV n).cells=[vu n.ad,.sl (n.ps.map vu),.sl (n.ds.map vu)]:=rfl
@[simp]def ZcD(n:Rn):fldV (rnV n) 0=some (vu n.ad):=rfl
@[simp]def ZcE(n:Rn):fldV (rnV n) 1=some (.sl (n.ps.map vu)):=rfl
@[simp]def ZcF(n:Rn):fldV (rnV n) 2=some (.sl (n.ds.map vu)):=rfl
@[simp]def Zg7(n:Rn):szV (rnV n) 3=some (rnV n):=rfl
def yn{h:Hp}(hh:h.ok){part:Int}{o:Ob}:VC Sol.prog 67 false [hpV h,vi part,obV o] (vu (ZA h part o.at_)):=by
 refine Z5 Sol.func67 follows (by kernel_rfl) c67 rfl ?_;simp[p67];refine Z0 (Wo (h:=h)) (by simp) ?_;simp;refine Z0 (Tq hh.lay (part:=part) (at_:=o.at_)) (by simp[obV]) ?_;simp[ZA]
def Z9H{p:Pts}{k:Nat}(hk:k<4):idxV (.sl [.sl [],.sl (p.low.map obV),.sl (p.high.map obV),.sl (p.old.map obV),.sl (p.far.map obV)]) (vi ((k:Int)+1)) 1=some (.sl ((p.at ((k:Int)+1)).map obV)):=by
 have:k=0\/k=1\/k=2\/k=3:=by omega
 obtain rfl|rfl|rfl|rfl:=this<;>rfl
def Z8O{h:Hp}{part:Int}{l:List Ob}{i:Nat}{o:Ob}(hx:l[i]?=some o):rnL h part (l.take (i+1))=rnL h part (l.take i)++if o.gone then []else [rnO h part o]:=by
 unfold rnL;rw[ZhM,hx,Zkv,Zic];cases hg:o.gone<;>simp[hg]
def Z6T{h:Hp}{part:Int}{l:List Ob}:(rnL h part l).length<=l.length:=by
 unfold rnL;rw[Zi1];exact Zjw _ _
def Z2A{h:Hp}{p:Pts}(hp:p.ok h):∀k:Nat,(rnsP h p k).length<=k*1000000
 |0=>by simp[rnsP]
 |k+1=>by
  have h1:=Z2A hp k;have h2:=hp.len ((k:Int)+1);have h3:=Z6T (h:=h) (part:=(k:Int)+1) (l:=p.at ((k:Int)+1));simp only[rnsP,Zin];omega
def Z3S{h:Hp}(hh:h.ok){p:Pts}(hp:ZT h=some p):VC Sol.prog 32 false [hpV h] (.sl ((rnsP h p 4).map rnV)):=by
 refine Z5 Sol.func32 follows (by kernel_rfl) c32 rfl ?_;have hpo:=zJ hh hp;have kp:=zK hh;rw[hp]at kp;simp only[ptO,ptsV]at kp;simp[p32];refine Z0 kp (by simp) ?_;simp;refine ZO (λk:Nat=>[(3,.v (.sl ((rnsP h p k).map rnV))),(6,.v (vi ((k:Int)+1)))]) (λk=>k<=4) (cnt 6 5) 0 (by simp[rnsP]) (by simp) ?_;intro k hk;by_cases hk4:k<4
 ·have hpt:=Z9H (p:=p) hk4;have hL:=hpo.len ((k:Int)+1);have hO:=hpo.ob ((k:Int)+1);have hR:=Z2A hpo k;have hPl:=(Zu hh ((k:Int)+1)).2;have hk':(k:Int)+1<=4:=by omega
  have hwk:=Z4 ((k:Int)+1+1) (by omega) (by omega);have kpt:=Sx (h:=h) (n:=(k:Int)+1);have e1:rnsP h p (k+1)=rnsP h p k++rnL h ((k:Int)+1) (p.at ((k:Int)+1)):=rfl;simp[hk'];refine Z0 kpt (by simp[hpV]) ?_;simp;generalize p.at ((k:Int)+1)=L at*;refine Y2 9 L.length (λi=>[(3,.v (.sl ((rnsP h p k++rnL h ((k:Int)+1) (L.take i)).map rnV))),(9,.v (vi i))]) (λ_=>True) (by simp[rnL]) (by simp) trivial ?_;intro i hi _;have hwi:=Z4 ((i:Int)+1) (by omega) (by omega);by_cases hlt:i<L.length
  ·have hx:L[i]?=some L[i]:=Zh8 hlt;obtain⟨⟨⟨a,ha,hfit⟩,hsh⟩,_⟩:=hO _ (Zhi hlt);have ht:=Z8O (h:=h) (part:=(k:Int)+1) hx;have hl1:=Z6T (h:=h) (part:=(k:Int)+1) (l:=L.take i);rw[Zik]at hl1;generalize L[i]=o at*;obtain⟨s1,s2,s3,s4⟩:=Zb.1 hsh;obtain⟨q,hq⟩:=Zhl s3;obtain⟨n,hn⟩:=Zhl s1;have hwa:=Z4 ((a:Int)+1) (by omega) (by omega);have hwq:=Z4 ((a:Int)+1+q) (by omega) (by omega);have hwn:=Z4 ((a:Int)+1+n) (by omega) (by omega);have ka:=yn hh (part:=(k:Int)+1) (o:=o);have er:V.agg [vu (ZA h ((k:Int)+1) a),.sl ((rnO h ((k:Int)+1) o).ps.map vu),.sl ((rnO h ((k:Int)+1) o).ds.map vu)]=rnV (rnO h ((k:Int)+1) o):=by rw[<-ha];rfl
   have l1:slcV 1 (.sl ((Zh h ((k:Int)+1)).map vu)) (vi ((a:Int)+1)) (vi ((a:Int)+1+q))=some (.sl ((rnO h ((k:Int)+1) o).ps.map vu)):=by
    unfold slcV;dsimp only;rw[if_pos ⟨by omega,by omega,by simp;omega,Uh _⟩];simp[rnO,ha,hq,Zjb,ZjU]
   have l2:slcV 1 (.sl ((Zh h ((k:Int)+1)).map vu)) (vi ((a:Int)+1+q)) (vi ((a:Int)+1+n))=some (.sl ((rnO h ((k:Int)+1) o).ds.map vu)):=by
    unfold slcV;dsimp only;rw[if_pos ⟨by omega,by omega,by simp;omega,Uh _⟩];simp[rnO,ha,hq,hn,Zjb,ZjU]
   have hlim:(rnsP h p k).length+((rnL h ((k:Int)+1) (L.take i)).length+1)<=lim:=by simp[lim];omega
   cases hg:o.gone
   ·rw[hg]at ht;simp[hlt,hx,hpt,Zt hx,hg,ha,hq,hn,hwa,hwq];simp only[hpV,obV,hg,ha,hq,hn]at ka;refine Z0 ka (by simp) ?_;simp[hlt,hx,hpt,Zt hx,hg,ha,hq,hn,hwa,hwq,hwn,l1,l2,hwi,ht];exact⟨by omega,er⟩
   ·simp[hlt,hx,hpt,Zt hx,hg,ht,hwi]
  ·have:i=L.length:=by omega
   subst this;simp[hpt,hwk];exact⟨k+1,by omega,⟨by rw[e1];simp,by omega⟩,by simp[cnt];omega⟩
 ·have:k=4:=by omega
  subst this;simp
def Z1v{h:Hp}(hh:h.ok){p:Pts}(hp:ZT h=some p){a:Int}:VC Sol.prog 69 false [hpV h,vu a] (vu (tgtR h p a)):=by
 refine Z5 Sol.func69 follows (by kernel_rfl) c69 rfl ?_;have hpo:=zJ hh hp;have kp:=zK hh;rw[hp]at kp;simp only[ptO,ptsV]at kp;simp[p69];refine Z0 kp (by simp) ?_;simp;refine ZO (λk:Nat=>[(6,.v (vi (((k+2:Nat):Int)+1)))]) (λk=>k<=2/\(0<k->p.old.find? (gAt h a 3)=none)/\(1<k->p.far.find? (gAt h a 4)=none)) (cnt 6 5) 0 (by simp) (by simp) ?_;rintro k ⟨hk,i1,i2⟩;by_cases hk2:k<2
 ·have hpt:=Z9H (p:=p) (k:=k+2) (by omega);have hL:=hpo.len (((k+2:Nat):Int)+1)
  have hres:∀o,(p.at (((k+2:Nat):Int)+1)).find? (gAt h a (((k+2:Nat):Int)+1))=some o->tgtR h p a=o.target:=by
   intro o ho;have:k=0\/k=1:=by omega
   unfold tgtR;obtain rfl|rfl:=this
   ·have:p.old.find? (gAt h a 3)=some o:=ho;rw[this]
   ·have:p.far.find? (gAt h a 4)=some o:=ho;rw[i1 (by omega)];dsimp only;rw[this]
  have hnext:(p.at (((k+2:Nat):Int)+1)).find? (gAt h a (((k+2:Nat):Int)+1))=none->(0<k+1->p.old.find? (gAt h a 3)=none)/\(1<k+1->p.far.find? (gAt h a 4)=none):=by
   intro ho;have:k=0\/k=1:=by omega
   obtain rfl|rfl:=this
   ·exact⟨λ_=>ho,λh=>absurd h (by omega)⟩
   ·exact⟨λ_=>i1 (by omega),λ_=>ho⟩
  have hK:(((k+2:Nat):Int)+1)<=4:=by omega
  have hwk:=Z4 (((k+2:Nat):Int)+1+1) (by omega) (by omega);have hK5:(((k+2:Nat):Int)+1)+1=((k+1+2:Nat):Int)+1:=by omega
  generalize hKe:(((k+2:Nat):Int)+1)=K at*;generalize p.at K=L at*;simp[hK];refine Xe 8 L.length (λi=>(L.take i).find? (gAt h a K)=none) (by simp) (by simp) (by simp) ?_;intro i hi hinv;have hwi:=Z4 ((i:Int)+1) (by omega) (by omega);by_cases hlt:i<L.length
  ·have hx:L[i]?=some L[i]:=Zh8 hlt;generalize L[i]=o at*;obtain⟨f1,f2⟩:=yY hx hinv;have ka:=yn hh (part:=K) (o:=o);cases hg:o.gone
   ·have e0:gAt h a K o=false:=by simp[gAt,hg]
    rw[e0]at f1;simp[hlt,hx,hpt,Zt hx,hg,hwi];simpa using f1
   ·simp only[hpV]at ka;simp[hlt,hx,hpt,Zt hx,hg];refine Z0 ka (by simp) ?_;by_cases he:ZA h K o.at_=a
    ·have e0:gAt h a K o=true:=by simp[gAt,hg,he]
     have:=hres o (f2 e0);simp[hlt,hx,hpt,Zt hx,hg,hwi,he,this]
    ·have e0:gAt h a K o=false:=by simp[gAt,hg,he]
     rw[e0]at f1;simp[hlt,hx,hpt,Zt hx,hg,hwi,he];simpa using f1
  ·have:i=L.length:=by omega
   subst this;rw[ZhS]at hinv;obtain⟨n1,n2⟩:=hnext hinv;simp[hpt,hwk];exact⟨k+1,⟨by omega,by simpa using n1,by simpa using n2⟩,by omega,by simp[cnt];omega⟩
 ·have:k=2:=by omega
  subst this
  have:tgtR h p a=a:=by
   unfold tgtR;rw[i1 (by omega)];dsimp only;rw[i2 (by omega)]
  simp[this]
def Z3R{h:Hp}(hh:h.ok){p:Pts}(hp:ZT h=some p){ns:List Rn}{ws:List Int}(hn:ns.length<=1000000)(hl:ws.length<=1000000)(hu:∀w∈ws,U64 w):VC Sol.prog 33 false [hpV h,.sl (ns.map rnV),.sl (ws.map vu)] (.sl ((ws.map (S6 h p ns)).map vi)):=by
 refine Z5 Sol.func33 follows (by kernel_rfl) c33 rfl ?_;simp[p33];refine Y2 6 ws.length (λi=>[(5,.v (.sl (((ws.take i).map (S6 h p ns)).map vi))),(6,.v (vi i))]) (λ_=>True) (by simp) (by simp) trivial ?_;intro i hi _;by_cases hlt:i<ws.length
 ·have hx:ws[i]?=some ws[i]:=Zh8 hlt;have hU:=hu _ (Zhi hlt);have hw:=Z4 ((i:Int)+1) (by omega) (by omega)
  have htk:List.take (i+1) (List.map (vi∘S6 h p ns) ws)=List.take i (List.map (vi∘S6 h p ns) ws)++[vi (S6 h p ns ws[i])]:=by
   rw[ZhM,Zhr,hx];rfl
  have hlim:min i ws.length+1<=lim:=by unfold lim;omega
  have kt:=Z1v hh hp (a:=(adr ws[i]).1);simp only[hpV]at kt;have hnm:S6 h p ns ws[i]=if(adr ws[i]).2=0 then UM ns (tgtR h p (adr ws[i]).1) ns.length else-1:=rfl
  generalize ws[i]=w at*;simp[hlt,hx,Zt hx];refine Z0 (U9 hU) (by simp) ?_;simp;refine Z0 kt (by simp) ?_;generalize tgtR h p (adr w).1=t at*;simp;refine Y2 12 ns.length (λk=>[(8,.v (vi (if(adr w).2=0 then UM ns t k else-1))),(12,.v (vi k))]) (λ_=>True) (by simp[UM]) (by simp) trivial ?_;intro k hk _;by_cases hlk:k<ns.length
  ·have hy:ns[k]?=some ns[k]:=Zh8 hlk;have hwk:=Z4 ((k:Int)+1) (by omega) (by omega);by_cases he:(adr w).2=0
   ·by_cases ht:ns[k].ad=t
    ·simp[hlk,hy,Zt hy,he,ht,hwk,UM]
    ·simp[hlk,hy,Zt hy,he,ht,hwk,UM]
   ·simp[hlk,hy,Zt hy,he,hwk]
  ·have:k=ns.length:=by omega
   subst this;simp[hw,htk,hlim,hnm,hlt]
 ·have:i=ws.length:=by omega
  subst this;simp
def nd12(h:Hp)(p:Pts)(ns:List Rn)(n:Rn):Nd:=⟨n.ps.map (S6 h p ns),n.ds⟩
def Z2v{h:Hp}(hh:h.ok):VC Sol.prog 11 false [hpV h] (ofR h):=by
 refine Z5 Sol.func11 follows (by kernel_rfl) c11 rfl ?_;have kr:=Z1g hh;simp only[hpV]at kr;simp[p11];refine Z0 kr (by simp) ?_;cases hr:Yp h
 ·simp[ofR,hr,noGr,grV]
 obtain⟨p,r⟩:=jr.1 hr;have kn:=Z3S hh r.parts;simp only[hpV]at kn;have hsm:=(ofOk hh hr).sm;have hns:=hsm.n;have hsf:=hsm.f;rw[<-Zi1 (f:=foRn),Lv r]at hns
 have hps:∀n∈rnsP h p 4,n.ps.length<=100000/\∀w∈n.ps,U64 w:=by
  rw[<-Lv r];intro n hn;obtain⟨f,hf,rfl⟩:=Zhq.1 hn;obtain⟨_,_,h3,h4⟩:=hsf f hf;exact⟨by simp only[foRn,Zik];omega,λw hw=>h4 w (Zhz hw)⟩
 have kc:=Z1c hsm.gr;have hre:=ZdV r;have hof:ofR h=YI (refG h p):=by unfold ofR;rw[if_pos hr,hre];rfl
 rw[show(V0 h).gr h.roots=refG h p from hre.symm]at kc;rw[hof];have hG:refG h p=⟨(rnsP h p 4).map (nd12 h p (rnsP h p 4)),h.roots.map (S6 h p (rnsP h p 4))⟩:=rfl;simp;refine Z0 kn (by simp) ?_;have km:=λws h1 h2=>Z3R hh r.parts (ns:=rnsP h p 4) (ws:=ws) (by omega) h1 h2;simp only[hpV]at km;generalize rnsP h p 4=ns at*;rw[hG]at kc⊢;simp;refine Y2 8 ns.length (λi=>[(7,.m [.sl (((ns.take i).map (nd12 h p ns)).map ndV),.sl []]),(8,.v (vi i))]) (λ_=>True) (by simp) (by simp) trivial ?_;intro i hi _;by_cases hlt:i<ns.length
 ·have hx:ns[i]?=some ns[i]:=Zh8 hlt;have hw:=Z4 ((i:Int)+1) (by omega) (by omega);obtain⟨q1,q2⟩:=hps _ (Zhi hlt)
  have htk:List.take (i+1) (List.map (ndV∘nd12 h p ns) ns)=List.take i (List.map (ndV∘nd12 h p ns) ns)++[ndV (nd12 h p ns ns[i])]:=by
   rw[ZhM,Zhr,hx];rfl
  have hlim:min i ns.length+1<=lim:=by unfold lim;omega
  have k1:=km ns[i].ps (by omega) q2;generalize ns[i]=n at*;simp[hlt,hx,Zt hx];refine Z0 k1 (by simp) ?_;simp[hlt,hx,Zt hx,hw,htk,hlim,nd12,ndV]
 ·have:i=ns.length:=by omega
  subst this;simp;refine Z0 (km h.roots hh.roots hh.rootsW) (by simp) ?_;simp;simp only[grV,ZjO]at kc;refine Z0 kc (by simp) ?_;generalize (⟨ns.map (nd12 h p ns),h.roots.map (S6 h p ns)⟩:Gr)=g at*;have f0:flV (vi 0)=some (vi 0):=rfl;have f1:flV (vi 1)=some (vi 1):=rfl;unfold YI;split
  ·simp[grV,f0]
  ·simp[noGr,grV,f1]
def Z43{h:Hp}(hh:h.ok):VC Sol.prog 14 false [hpV h] (vi (Z0K h)):=by
 refine Z5 Sol.func14 follows (by kernel_rfl) c14 rfl ?_;have k:=Z2v hh;rw[Z6p]at k;have ks:=Z6o hh
 have hz:(ofG h).2≠0->words (ofG h).1=0:=by
  unfold ofG;split
  ·intro x;exact absurd rfl x
  ·intro _;rfl
 unfold Z0K;generalize ofG h=g at*;obtain⟨g,e⟩:=g;simp only at k ks hz⊢;simp only[hpV]at k;simp[p14];refine Z0 k (by simp) ?_;simp;have kw:=Z1h ks;simp only[grV]at kw;refine Z0 kw (by simp) ?_;by_cases he:e=0
 ·simp[he]
 ·simp[he,hz he]
def ZaQ(h:Hp):NoM (.tup [grV (ofG h).1,vi (ofG h).2]):=.tup _ λc hc=>by
 simp only[Zho,Zil,ZjD]at hc;obtain rfl|rfl:=hc
 ·exact qT _
 ·exact .int _ _
end Vm
end
section

end
section
namespace Vm
open Go Go.Proofs
section
def R5{h:Hp}{k j:Int}(hk:1<=k/\k<=4)(hj:1<=j/\j<=4)(l:List Int):Zh (Xg h k l) j=if j=k then l else Zh h j:=by
 have h1:k=1\/k=2\/k=3\/k=4:=by omega
 have h2:j=1\/j=2\/j=3\/j=4:=by omega
 obtain rfl|rfl|rfl|rfl:=h1<;>obtain rfl|rfl|rfl|rfl:=h2<;>rfl
def ndAt(b:Bt)(i:Nat):Nd:=(b.g.nodes[i]?).getD default
def Yt(b:Bt)(i:Nat):Pl:=(b.here[i]?).getD ⟨0,0⟩
def VG(b:Bt)(i:Nat):Pl:=(b.old[i]?).getD ⟨0,0⟩
def hdrN(n:Nd):Int:=(Jy ((n.ptrs.length:Int)+n.data.length) n.ptrs.length).1
def SZ(b:Bt)(p:Pl)(n:Nd)(tw:Int):List Int:=hdrN n::(Xj b p p.at_.toNat n.ptrs tw++n.data)
def Z3x(b:Bt)(p:Pl)(n:Nd):List Int:=refB b.h p::List.replicate (sizN n-1) 0
def blkB(b:Bt)(x:Rw)(k:Int)(i:Nat):List Int:=
 if(Yt b i).part=k then SZ b (Yt b i) (ndAt b i) (IntKind.i64.wrap (x.slack+i))
 else if(VG b i).part=k then(if(Yt b i).part=0 then SZ b (VG b i) (ndAt b i) 0 else Z3x b (Yt b i) (ndAt b i))
 else []
def cat(b:Bt)(x:Rw)(k:Int)(i:Nat):List Int:=(List.range i).flatMap (blkB b x k)
def XE(b:Bt)(x:Rw)(k:Int)(i:Nat):cat b x k (i+1)=cat b x k i++blkB b x k i:=by
 unfold cat;rw[Zjx,List.flatMap_append];simp
def qA(b:Bt)(p:Pl)(n:Nd)(tw:Int):(SZ b p n tw).length=sizN n:=by
 simp[SZ,Xj,sizN];omega
def Z5o(b:Bt)(p:Pl)(n:Nd):(Z3x b p n).length=sizN n:=by
 simp[Z3x,sizN];omega
structure Placed (b:Bt) (x:Rw):Prop where
 ok:BOk b
 here:∀i,i<b.g.nodes.length->(Yt b i=⟨0,0⟩/\∃k:Int,(k=3\/k=4)/\(VG b i).part=k)\/(((Yt b i).part=1\/(Yt b i).part=2)/\(Yt b i).at_=((cat b x (Yt b i).part i).length:Nat))
 old:∀i,i<b.g.nodes.length->VG b i=⟨0,0⟩\/(((VG b i).part=3\/(VG b i).part=4)/\(VG b i).at_=((cat b x (VG b i).part i).length:Nat)/\(Yt b i).part≠2)
 zero:∀k:Int,1<=k/\k<=4->Zh b.h k=List.replicate (cat b x k b.g.nodes.length).length 0
section
variable {b d:Bt}{x:Rw}
def jn(hl:Like b d)(p:Pl):refB d.h p=refB b.h p:=by
 unfold refB;rw[hl.lay]
def Z4k(hl:Like b d)(p:Pl)(to tw:Int):JW d p to tw=JW b p to tw:=by
 unfold JW;rw[hl.here,hl.old,hl.scan,jn hl,jn hl]
def Lb(hl:Like b d)(p:Pl)(n:Nd)(tw:Int):SZ d p n tw=SZ b p n tw:=by
 unfold SZ Xj;simp only[Z4k hl]
def Z0H{p:Pl}{a m:Nat}{n:Nd}{tw:Int}{F:List Int}(hp:Zh d.h p.part=F++List.replicate m 0)(ha:F.length=a)(hat:p.at_.toNat=a)(hm:sizN n<=m):layL d p a n tw=F++SZ d p n tw++List.replicate (m-sizN n) 0:=by
 unfold layL;simp only;rw[hp];have e1:(F++List.replicate m (0:Int)).take a=F:=by rw[<-ha];simp
 have e2:(F++List.replicate m (0:Int)).drop (a+sizN n)=List.replicate (m-sizN n) 0:=by
  rw[<-ha,List.drop_append,Zjn (by omega)];simp
 rw[e1,e2];simp[SZ,hdrN,hat]
def Zbh{F:List Int}{a m s:Nat}{w:Int}(ha:F.length=a)(hs:1<=s)(hm:s<=m):(F++List.replicate m (0:Int)).set a w=F++(w::List.replicate (s-1) 0)++List.replicate (m-s) 0:=by
 rw[<-ha,Zl1 _ _ (Zhe _),Zjz];obtain⟨m,rfl⟩:∃m',m=m'+1:=⟨m-1,by omega⟩;rw[List.replicate_succ,List.set_cons_zero,Ziy];congr 1;simp;omega
def Z1N(b:Bt)(x:Rw)(k:Int){i j:Nat}(h:i<=j):∃r,cat b x k j=cat b x k i++r:=by
 induction j with
 |zero=>exact⟨[],by have:i=0:=by omega
                    subst this;simp⟩
 |succ j ih=>
  by_cases hij:i=j+1
  ·subst hij;exact⟨[],by simp⟩
  ·obtain⟨r,hr⟩:=ih (by omega);exact⟨r++blkB b x k j,by rw[XE,hr,Ziy]⟩
def Upto(b:Bt)(x:Rw)(i:Nat)(d:Bt):Prop:=∀k:Int,1<=k/\k<=4->Zh d.h k=cat b x k i++List.replicate ((cat b x k b.g.nodes.length).length- (cat b x k i).length) 0
def ZdY(b:Bt)(x:Rw)(k:Int){i:Nat}(hi:i<b.g.nodes.length):(cat b x k i).length+(blkB b x k i).length<=(cat b x k b.g.nodes.length).length:=by
 obtain⟨r,hr⟩:=Z1N b x k (show i+1<=b.g.nodes.length by omega);rw[hr,XE];simp
def Z5c(hpl:Placed b x){i:Nat}(hi:i<b.g.nodes.length)(hl:Like b d)(hu:Upto b x i d):Upto b x (i+1) (Z3v x d i):=by
 have en:(d.g.nodes[i]?).getD default=ndAt b i:=by rw[hl.g];rfl
 have ep:(d.here[i]?).getD ⟨0,0⟩=Yt b i:=by rw[hl.here];rfl
 have eo:(d.old[i]?).getD ⟨0,0⟩=VG b i:=by rw[hl.old];rfl
 unfold Z3v;simp only[en,ep,eo];have hh:=hpl.here i hi;have ho:=hpl.old i hi;have hblk:=λk=>ZdY b x k hi;have hbk:∀k,blkB b x k i=if(Yt b i).part=k then SZ b (Yt b i) (ndAt b i) (IntKind.i64.wrap (x.slack+i))else if(VG b i).part=k then(if(Yt b i).part=0 then SZ b (VG b i) (ndAt b i) 0 else Z3x b (Yt b i) (ndAt b i))else []:=λk=>rfl
 have l1:=qA b (Yt b i) (ndAt b i) (IntKind.i64.wrap (x.slack+i));have l2:=qA b (VG b i) (ndAt b i) 0;have l3:=Z5o b (Yt b i) (ndAt b i);have e1:=Lb hl (Yt b i) (ndAt b i) (IntKind.i64.wrap (x.slack+i));have e2:=Lb hl (VG b i) (ndAt b i) 0;generalize Yt b i=p at*;generalize VG b i=o at*;generalize ndAt b i=n at*;have hs1:1<=sizN n:=by unfold sizN;omega
 obtain⟨rfl,ko,hko,hko2⟩|⟨hp,hat⟩:=hh
 ·
  have ho2:(o.part=3\/o.part=4)/\o.at_=((cat b x o.part i).length:Nat):=by
   obtain rfl|⟨h1,h2,_⟩:=ho
   ·simp at hko2;omega
   ·exact⟨h1,h2⟩
  have hA:RZ x d i n ⟨0,0⟩=d:=by unfold RZ;rw[if_neg (by simp)]
  have hO:Q0 d n ⟨0,0⟩ o=layB d o n 0:=by unfold Q0;rw[if_pos ⟨by omega,rfl⟩]
  have hG:∀q,SI q ⟨0,0⟩ o=q:=λq=>by unfold SI;rw[if_neg (by simp)]
  rw[hA,hO,hG];intro k hk;have hbO:blkB b x o.part i=SZ b o n 0:=by rw[hbk,if_neg (by show ¬(0:Int)=o.part;omega),if_pos rfl,if_pos rfl]
  have hro:=hblk o.part;rw[hbO,l2]at hro;unfold layB;simp only;rw[R5 (by omega) hk];by_cases hko:k=o.part
  ·rw[if_pos hko,hko,Z0H (hu o.part (by omega)) (by rw[ho2.2];simp) rfl (by omega),XE,hbO,e2];congr 2;simp[l2];omega
  ·rw[if_neg hko,XE,hbk k,if_neg (by show ¬(0:Int)=k;omega),if_neg (λh=>hko h.symm),Zix];exact hu k hk
 ·have hp0:¬p.part=0:=by omega
  have hA:RZ x d i n p=layB d p n (IntKind.i64.wrap (x.slack+i)):=by unfold RZ;rw[if_pos (by omega)]
  have hO:∀q,Q0 q n p o=q:=λq=>by unfold Q0;rw[if_neg (by simp[hp0])]
  rw[hA,hO];have hbP:blkB b x p.part i=SZ b p n (IntKind.i64.wrap (x.slack+i)):=by rw[hbk,if_pos rfl]
  have hrp:=hblk p.part;rw[hbP,l1]at hrp
  have hlay:∀k:Int,1<=k/\k<=4->Zh (layB d p n (IntKind.i64.wrap (x.slack+i))).h k=if k=p.part then cat b x p.part (i+1)++List.replicate ((cat b x p.part b.g.nodes.length).length- (cat b x p.part (i+1)).length) 0 else Zh d.h k:=by
   intro k hk;unfold layB;simp only;rw[R5 (by omega) hk];by_cases hkp:k=p.part
   ·rw[if_pos hkp,if_pos hkp,Z0H (hu p.part (by omega)) (by rw[hat];simp) rfl (by omega),XE,hbP,e1];congr 2;simp[l1];omega
   ·rw[if_neg hkp,if_neg hkp]
  have hlk:refB (layB d p n (IntKind.i64.wrap (x.slack+i))).h p=refB b.h p:=by
   unfold refB
   have:layH (layB d p n (IntKind.i64.wrap (x.slack+i))).h=layH b.h:=by
    rw[<-hl.lay];unfold layB;simp only;refine jO ?_;rw[Z0H (hu p.part (by omega)) (by rw[hat];simp) rfl (by omega),hu p.part (by omega),e1];simp[l1];omega
   rw[this]
  generalize layB d p n (IntKind.i64.wrap (x.slack+i))=q at*;obtain rfl|⟨ho1,ho2,ho3⟩:=ho
  ·have hG:SI q p ⟨0,0⟩=q:=by unfold SI;rw[if_neg (by simp)]
   rw[hG];intro k hk;rw[hlay k hk];by_cases hkp:k=p.part
   ·rw[if_pos hkp,hkp]
   ·rw[if_neg hkp,XE,hbk k,if_neg (λh=>hkp h.symm),if_neg (by show ¬(0:Int)=k;omega),Zix];exact hu k hk
  ·have hG:SI q p o= {q with h:=Xg q.h o.part ((Zh q.h o.part).set o.at_.toNat (refB q.h p))}:=by unfold SI;rw[if_pos ⟨by omega,by omega⟩]
   rw[hG];have hbO:blkB b x o.part i=Z3x b p n:=by rw[hbk,if_neg (by omega),if_pos rfl,if_neg hp0]
   have hro:=hblk o.part;rw[hbO,l3]at hro;intro k hk;simp only;rw[R5 (by omega) hk,hlay o.part (by omega),if_neg (show ¬o.part=p.part by omega),hu o.part (by omega),hlk];by_cases hko:k=o.part
   ·rw[if_pos hko,hko,Zbh (by rw[ho2];simp) hs1 (by omega),XE,hbO];unfold Z3x;congr 2;simp;omega
   ·rw[if_neg hko,hlay k hk];by_cases hkp:k=p.part
    ·rw[if_pos hkp,hkp]
    ·rw[if_neg hkp,XE,hbk k,if_neg (λh=>hkp h.symm),if_neg (λh=>hko h.symm),Zix];exact hu k hk
def yV(hpl:Placed b x):∀i,i<=b.g.nodes.length->Upto b x i (SJ x b i)
 |0,_=>by
  intro k hk;rw[SJ,hpl.zero k hk];simp[cat]
 |i+1,hi=>by
  rw[SJ];exact Z5c hpl (by omega) (Z2d hpl.ok i (by omega)) (yV hpl i (by omega))
def Z3w(hpl:Placed b x){k:Int}(hk:1<=k/\k<=4):Zh (Tb x b) k=cat b x k b.g.nodes.length:=by
 have h:=yV hpl b.g.nodes.length (Zhe _) k hk;rw[Zjz,List.replicate_zero,Zix]at h;rw[<-h];rfl
end
end
def obAt(b:Bt)(k:Int)(i:Nat):List Ob:=
 if(Yt b i).part=k then [⟨(Yt b i).at_,((ndAt b i).ptrs.length:Int)+(ndAt b i).data.length,(ndAt b i).ptrs.length,false,0⟩]
 else if(VG b i).part=k then(if(Yt b i).part=0 then [⟨(VG b i).at_,((ndAt b i).ptrs.length:Int)+(ndAt b i).data.length,(ndAt b i).ptrs.length,false,0⟩]
  else [⟨(VG b i).at_,((ndAt b i).ptrs.length:Int)+(ndAt b i).data.length,(ndAt b i).ptrs.length,true,(adr (refB b.h (Yt b i))).1⟩])
 else []
def obs(b:Bt)(k:Int):List Ob:=(List.range b.g.nodes.length).flatMap (obAt b k)
structure Made (b:Bt) (x:Rw):Prop where
 pl:Placed b x
 lay:Zl (layH b.h)=true
 nine:∀n∈b.g.nodes,sizN n<=9
 cyc:b.h.cycle=true->∀i,i<b.g.nodes.length->(Yt b i).part=1->(VG b i).part≠0
 scan:0<=b.h.scan/\b.h.scan<=b.h.low.length/\(if b.h.cycle then b.h.scan<b.h.low.length else b.h.scan=b.h.low.length/\b.h.old=[]/\b.h.far=[])
 room:(b.h.low.length:Int)+b.h.high.length+((wtL (obs b 3)+wtL (obs b 4):Nat):Int)<=b.h.cap
 fit:Fit b.h.scan
section
section
variable {b:Bt}{x:Rw}
def Made.word(m:Made b x){k:Int}(hk:1<=k/\k<=4){i t:Nat}(hi:i<b.g.nodes.length)(ht:t< (blkB b x k i).length):(Zh (Tb x b) k)[(cat b x k i).length+t]?=(blkB b x k i)[t]? :=by
 rw[Z3w m.pl hk];obtain⟨r,hr⟩:=Z1N b x k (show i+1<=b.g.nodes.length by omega);rw[hr,XE,Ziy,ZhH (by omega),Nat.add_sub_cancel_left,Zi0 ht]
end
end
def ZaP(l:List Nd):NoM (.sl (l.map ndV)):=by
 have h:=qT ⟨l,[]⟩;unfold grV at h;cases h with
 |agg _ h=>exact h _ (by simp)
def Zdk(x:Rw):NoM (rwV x):=.agg _ λc hc=>by
 simp only[Zho,Zil,ZjD]at hc;obtain rfl|rfl|rfl|rfl|rfl|rfl|rfl:=hc
 all_goals first|exact .int _ _|exact ZaP _|exact ZfD _
def Z7C{x:Rw}(hx:x.ok):VC (bes Tryz.prog) 8 false [rwV x] (hpV (qg x)):=up (Z9W hx) (nom1 (Zdk x)) (S8 _)
end Vm
end
section
namespace Vm
open Go
open Go.Proofs
def p3:Fn:=⟨23,[0,1,2,3,4,5,6,10,11,12,13,24,14,58,57,59,16,56,17,18,19,20,87],
pQ [pR [(5,pS 0 10),(6,pS 1 7),pV 7 pF],pC [pK 23 5 []] [pV 8 (.s 23)],pR [(9,pM (.mm 5 0 10) 10)],pQ [pR [pV 10 (pI 1)]] (.block 0 (.loop [0,1,2,3,4,5,6,7,8,9,10] (pQ [pQ [pR [pV 11 (.bin .leq (.s 10) (pI 4))]] (.cond (.s 11) .skip (.exit 0)),.block 1 (pC [pK 24 7 [.mm 9 0 10,.s 10],pK 25 7 [.mm 9 0 10,.s 10],pK 26 6 [.mm 9 0 10,.s 10,.slc (.s 24) (pI 0) (.mn (.len (.s 25)) (pI 12)) 1]] [(9,pS 26 10)])] (pR [pV 10 (.bin .add (.s 10) (pI 1))])))),pR [(9,.m [.m 9 0,.m 9 1,.m 9 2,.m 9 3,.m 9 4,.m 9 5,.m 9 6,.m 9 7,.m 9 8,.slc (.m 5 9) (pI 0) (.mn (.len (.m 5 9)) (pI 20)) 1])],pC [pK 27 8 [.mm 6 0 7]] [(12,pS 27 10)],pQ [pC [pK 28 9 [.mm 12 0 10,.s 2,.s 3,.s 4]] [pV 13 (pI 0),pV 14 (.len (.lit [.mm 9 0 10,.mm 12 0 10,.sz (.s 28) 10])),pV 17 (.lit [.mm 9 0 10,.mm 12 0 10,.sz (.s 28) 10])]] (.block 2 (.loop [0,1,2,3,4,5,6,7,8,9,10,11,12,13,14,17] (pQ [pR [pV 15 (.bin .lss (.s 13) (.s 14))],.cond (.s 15) .skip (.exit 2),.block 3 (pQ [pR [(16,pM (.flds (.idx (.s 17) (.s 13) 10) 0 10) 10)],pC [pK 29 10 [.mm 16 0 10]] [(18,pM (.sz (.ext (.s 29) 0) 2) 2),pV 19 (.ext (.s 29) 1)],pC [pK 30 11 [.mm 16 0 10]] [(20,pM (.sz (.ext (.s 30) 0) 2) 2),pV 21 (.ext (.s 30) 1)],.reg ⟨[.lt 31 [] (.bin .neq (.s 19) (.s 21)),.call 32 [(31,false)] (.id 12) false false [.mm 18 0 2,.mm 20 0 2],.lt 33 [] (.ite (.s 31) pT (.un .not (.s 32))),.call 34 [(33,false)] (.id 13) false false [.mm 16 0 10],.call 35 [(33,false)] (.id 14) false false [.mm 16 0 10]],[([(31,false)],.un .not (.s 32)),([(33,false)],.bin .neq (.s 34) (.s 35))],[pV 22 (.ite (.s 33) pT (.bin .neq (.s 34) (.s 35)))]⟩] (.cond (.s 22) (pQ [pR [pV 7 pF]] .ret) .skip))] (pR [pV 13 (.bin .add (.s 13) (pI 1))])))),pR [pV 7 (.s 8)]] .ret,[(7,.v)]⟩
def c3:Za (bes Tryz.prog) fresh sig [.fz,.fz,.fz,.fz,.fz] [] Tryz.f3=some p3:=by kernel_rfl
end Vm
end
section
namespace Vm
open Go Go.Proofs
def Z7E{h:Hp}{n:Int}:VC (bes Tryz.prog) 7 false [hpV h,vi n] (.sl ((Zh h n).map vu)):=up (Sx (h:=h) (n:=n)) (nom2 (S8 h) (.int _ _)) (Z3T _)
def Z7G{h:Hp}{n:Int}{l:List Int}:VC (bes Tryz.prog) 6 false [hpV h,vi n,.sl (l.map vu)] (hpV (Xg h n l)):=up (LH (h:=h) (n:=n) (l:=l)) (λy hy=>by
 simp only[Zho,Zil,ZjD]at hy;obtain rfl|rfl|rfl:=hy<;>first|exact S8 _|exact .int _ _|exact Z3T _) (S8 _)
def Z30{h:Hp}(hh:h.ok){which x w:Int}(hwh:Fit which)(hx:Fit x):VC (bes Tryz.prog) 9 false [hpV h,vi which,vi x,vu w] (hpV (LC h which x w)):=up (Z4H (w:=w) hh hwh hx) (λy hy=>by
 simp only[Zho,Zil,ZjD]at hy;obtain rfl|rfl|rfl|rfl:=hy<;>first|exact S8 _|exact .int _ _) (S8 _)
def Z6N{h:Hp}(hh:h.ok):VC (bes Tryz.prog) 11 false [hpV h] (.tup [grV (ofG h).1,vi (ofG h).2]):=up (by rw[<-Z6p];exact Z2v hh) (nom1 (S8 h)) (ZaQ h)
def Z1d{h:Hp}(hh:h.ok):VC (bes Tryz.prog) 14 false [hpV h] (vi (Z0K h)):=up (Z43 hh) (nom1 (S8 h)) (.int _ _)
instance fitTells:FitF (bes Tryz.prog) 3:=Z5e (P:=Tryz.prog) Tryz.func3 rfl (by kernel_rfl)
def Z3K{odd:Hp}(ho:odd.raw){x:Rw}(hx:x.ok){which n w:Int}(hwh:Fit which)(hn:Fit n)(hw:U64 w):
  VC (bes Tryz.prog) 3 false [hpV odd,rwV x,vi which,vi n,vu w] (.bool true):=by
 refine Z5 (P:=bes Tryz.prog) Tryz.func3 Qb (by kernel_rfl) c3 rfl ?_;simp[p3];refine Z0 Z34 (by simp) ?_;simp;refine ZO (λi:Nat=>[(9,.m (hpCs (fewN odd i))),(10,.v (vi ((i:Int)+1)))]) (λi=>i<=4) (cnt 10 5) 0 (by simp[hpCs,fewN]) (by simp) ?_;rintro i hi;by_cases hlt:i<4
 ·have hlt':(i:Int)+1<=4:=by omega
  have k1:=Z7E (h:=fewN odd i) (n:=(i:Int)+1);have k2:=Z7G (h:=fewN odd i) (n:=(i:Int)+1) (l:=(Zh (fewN odd i) ((i:Int)+1)).take 12);have he:Xg (fewN odd i) ((i:Int)+1) ((Zh (fewN odd i) ((i:Int)+1)).take 12)=fewN odd (i+1):=by rw[fewN];rfl
  rw[he]at k2;generalize hg2:fewN odd (i+1)=g2 at*;generalize fewN odd i=g at*;generalize Zh g ((i:Int)+1)=ws at*;unfold hpV at k1 k2;simp[hlt',hpCs];refine Z0 k1 (by simp) ?_;simp;refine Z0 k1 (by simp) ?_;simp;rw[Z78 (k:=12) (K:=12) rfl];generalize ws.take 12=ws2 at*;simp only[onO];refine Z0 k2 (by simp) ?_;have hw12:=Z4 ((i:Int)+1+1) (by omega) (by omega);simp[hw12];exact⟨i+1,by omega,⟨by rw[hg2];simp,by simp⟩,by simp[cnt];omega⟩
 ·have:i=4:=by omega
  subst this;simp[hpCs];rw[Z78 (k:=20) (K:=20) rfl];have hrt:(fewN odd 4).roots=odd.roots:=by simp[fewN]
  obtain⟨few,hfew⟩:∃few:Hp,few= {fewN odd 4 with roots:=odd.roots.take 20}:=⟨_,rfl⟩
  have fok:few.ok:=by
   rw[hfew];exact Zc1 ho
  generalize odd.roots.take 20=rts at*;generalize fewN odd 4=f4 at*;have kh:=Z7C hx;obtain⟨ok1,hr1,hro⟩:=Z84 hx;have ok3:=Z7l ok1 (λk=>Zht (Z6S hr1 k) (by omega)) (by omega) (which:=which) hn hw;have kt:=Z30 ok1 (w:=w) hwh hn;simp;unfold rwV at kh;refine Z0 kh (by simp) ?_;generalize qg x=own at*;simp;generalize LC own which n w=near at*;unfold hpV at kt;refine Z0 kt (by simp) ?_;simp
  have hall:∀h∈[few,own,near],h.ok:=by
   intro h hh;simp at hh;obtain rfl|rfl|rfl:=hh<;>assumption
  have e6: [V.agg [V.int IntKind.u64 f4.base,V.int IntKind.i64 f4.cap,V.int IntKind.i64 f4.to,V.bool f4.cycle,V.int IntKind.i64 f4.scan,V.sl (List.map vu f4.low),V.sl (List.map vu f4.high),V.sl (List.map vu f4.old),V.sl (List.map vu f4.far),V.sl (List.map vu rts)],V.agg [vu own.base,vi own.cap,vi own.to,V.bool own.cycle,vi own.scan,V.sl (List.map vu own.low),V.sl (List.map vu own.high),V.sl (List.map vu own.old),V.sl (List.map vu own.far),V.sl (List.map vu own.roots)],V.agg [vu near.base,vi near.cap,vi near.to,V.bool near.cycle,vi near.scan,V.sl (List.map vu near.low),V.sl (List.map vu near.high),V.sl (List.map vu near.old),V.sl (List.map vu near.far),V.sl (List.map vu near.roots)]]=[few,own,near].map hpV:=by rw[hfew];rfl
  rw[e6];have hl5: [few,own,near].length=3:=rfl;generalize [few,own,near]=hs at*;refine Xe 13 3 (λ_=>True) (by simp) (by simp) trivial ?_;intro i hi _;have hwi:=Z4 ((i:Int)+1) (by omega) (by omega);by_cases hlt:i<3
  case neg=>
   have:i=3:=by omega
   subst this;simp
  have hx5:i<hs.length:=by omega
  have hxi:hs[i]?=some hs[i]:=Zh8 hx5;have hok:=hall _ (Zhi hx5);generalize hs[i]=h at*;have hlt':(i:Int)<3:=by omega
  have f1:=yk hok;have f2:=Z6N hok;have f3:=Z1E (b:=(ofG h).1) (Z6o hok);have f4':=jU hok;have f5:=Z1d hok;unfold hpV at f1 f2 f4' f5;simp[hlt,hlt',hx5,hxi,Zt hxi,hwi];refine Z0 f1 (by simp) ?_;simp;refine Z0 f2 (by simp) ?_;simp;refine Z0 f3 (by simp) ?_;simp;refine Z0 f4' (by simp) ?_;simp;refine Z0 f5 (by simp) ?_;simp[hwi]
end Vm
end
section
namespace Go.Proofs.YtffknkhabklijaaGreat
open Vm Go.ChangeShapes Go.WideShapes Go.ChangeAt Go.RowKit
def viewTells_law(xs:List V)(hl:xs.length=Tryz.f3.params.toList.length)(ht:∀(i:Nat) (t:TypeId) (x:V),Tryz.f3.params.toList[i]?=some t->xs[i]?=some x->tyV Tryz.prog 8 t x):
  VC (bes Tryz.prog) 3 false xs (.bool true):=by
 rw[Tryz.params3]at hl ht
 match xs,hl with
 | [x0,x1,x2,x3,x4],_=>
   obtain⟨o,rfl,ho⟩:=Zgc (ht 0 _ x0 rfl rfl);obtain⟨x,rfl,hx⟩:=Zgd (ht 1 _ x1 rfl rfl);obtain⟨h,rfl,hh⟩:=yb (ht 2 _ x2 rfl rfl);obtain⟨n,rfl,hn⟩:=yb (ht 3 _ x3 rfl rfl);obtain⟨w,rfl,hw⟩:=Z95 (ht 4 _ x4 rfl rfl);exact Z3K ho hx hh hn hw
def viewTells_lifted(os:Os)(started:os.Started)(H:Type)(enc:TypeId×Value->H):
  ReturnsInLeavingWide {} Tryz.checked os 3 .any (Rows.viewTellsSpec.pre6 enc Tryz.prog Tryz.f3 Rows.viewTellsRow.domain false) (Rows.viewTellsSpec.post enc Tryz.prog Tryz.f3 false true false false):=by
 refine returnsInLeavingWide_of_change_sized (C:=Tryz.checked) own started Tryz.func3
  (ChangeSpec.witness6 (enc:=enc) (C:=Tryz.checked) false ⟨#[], #[.agg #[.int .u64 0,.int .i64 0,.int .i64 0,.bool false,.int .i64 0,.slice none 0 0,.slice none 0 0,.slice none 0 0,.slice none 0 0,.slice none 0 0],.agg #[.slice none 0 0,.slice none 0 0,.slice none 0 0,.int .u64 0,.int .i64 0,.int .i64 0,.int .i64 0],.int .i64 0,.int .i64 0,.int .u64 0],[]⟩ 8 (by kernel_rfl) (by kernel_rfl) (by kernel_rfl) (by kernel_rfl)) ?_
 intro W base args ds gs before hval hW _ _ _
 exact zf (P:=Tryz.prog) (by kernel_rfl) (zn (P:=bes Tryz.prog) (tb:=4) 8 laidOut (by kernel_rfl) (by kernel_rfl) rfl (by kernel_rfl) Tryz.underlying4 (λH ds hd=>by
  rw[Tryz.params3]at hd
  match ds,hd with
  | [_,_,_,_,_],_=>rfl) viewTells_law H enc W base args ds gs before hval hW)
theorem viewTells_holds:Rows.ViewTellsSaid:=
 OpenClaim.holds_of_wide_leaving 3 Tryz.f3 rfl rfl rfl rfl rfl rfl rfl ⟨rfl,rfl,rfl,rfl,rfl⟩ rfl rfl rfl rfl rfl (by kernel_rfl) Tryz.func3 (by kernel_rfl)
  (ZjC (by kernel_rfl)) (by unfold Func.isWrapper;first|(rw[if_pos (by decide+kernel)];kernel_rfl)|(rw[if_neg (by decide+kernel)];exact⟨rfl,rfl⟩))
  (λos started H enc _=>viewTells_lifted os started H enc)
#print axioms viewTells_holds
end Go.Proofs.YtffknkhabklijaaGreat
end
