import Derived.RecoverIn
import Derived.RangeFuncBox
import Derived.Maps.AppendAt
import Derived.Maps.OwnIn
import Derived.Laws.StructEq
import Derived.Test.YtjkmonbmpoegjaaSMutatorBarrier5
set_option linter.unusedSimpArgs false
set_option linter.unusedVariables false
set_option linter.defProp false
def Zad:=@_root_.Array.replicate_succ
def Zae:=@_root_.Array.replicate_zero
def Zay:=@_root_.List.push_toArray
def Zam:=@_root_.List.append_toArray
def ZaJ:=@_root_.eq_true
def Zas:=@_root_.Go.callsIn_wide
def ZaG:=@_root_.Go.grownBy_setCell'
def Zbj:=@_root_.Go.run_takeDeferred
def ZaZ:=@_root_.List.map_eq_nil_iff
def Zb9:=@_root_.List.filter_eq_nil_iff
def ZbJ:=@_root_.Bool.false_and
def Z9b:=@_root_.List.getElem?_take_of_lt
def ZaU:=@_root_.decide_eq_true
def ZaD:=@_root_.List.flatMap_append
def ZbT:=@_root_.List.drop_append
def Zb7:=@_root_.Nat.add_sub_cancel_left
def ZbM:=@_root_.List.flatMap_cons
section
namespace Vm
open Go Go.Proofs Go.RowKit Go.Shelf
set_option maxHeartbeats 1000000
set_option maxRecDepth 100000
def Z4l(bl:Nat)(W:World):Prop:= ∀k,rowB W bl=some k→k<W.heap.size
theorem Ya{A B C:World}{r:Option Nat}(h:A.grownBy B r)(k:B.grownBy C r):A.grownBy C r:=
 ⟨k.os.trans h.os,k.tape.trans h.tape,k.output.trans h.output,Z8Y h.size k.size,fun i hi hn=>(k.block i (Z8z hi h.size) hn).trans (h.block i hi hn)⟩
theorem qE(ws:List Int)(shs:List (Int×Int))(old:Bool){a t t':Nat}{x:Int}{ob:Ob}(hx:ws[a]? =some x)(ho:objR shs old a t x=some (ob,t')){f:Nat}{pre:List Ob}:
  YN ws shs old (f+1) a t pre=if(ws.length:Int) <a+1+ob.size then([],2)else if ZL ((ws.drop (a+1)).take ob.size.toNat) ob.gone ob.ptrs 0=false then([],3)else YN ws shs old f (a+1+ob.size.toNat) t' (pre++ [ob]):=by
 rw[YN,hx];simp only;rw[ho]
theorem Z0E(n:Nat){w:World}{ws:List Int}{g o cap bw bg base bl:Nat}{bt:Option Nat}{sv gv:Value}{shs:List (Int×Int)}{old:Bool}{K:Nat→World→Prop}(hst:Stat6 ws g o cap sv bw bg base bl bt gv w)
  (hbl:bl<base) (hltb:some bl≠bt) (hbeg:Z1z ws g o cap gv shs old bt K) (hK0:K 0 w) (hKB: ∀t W W',K t W→Below W.heap.size W W'→K t W') (hKK: ∀t W W',K t W→KpW bl base W W'→K t W'):
  SeqP Fence.wide n Try.prog 125 #[.pointer (some ⟨bw,0,none⟩),.pointer (some ⟨bg,0,none⟩)] (fun ob:Ob=> #[obA ob]) (KpW bl base) (endS ws shs old K) (endP ws shs old) ws.length bt (Z4l bl) w:=by
 intro l J W hW hJx hJ hY h0;refine callsIn_of_wp Try.func125 rfl trivial ?_ rfl;simp only[Try.ntmps125,Z9F,Z9o,Z9L,Nat.reduceAdd,Nat.reduceSub,Zad,Zae,Zay,Zam,Z9d,Z9s];have HS0:=Z8r (hst.grown (YJ hW bt));have HK0:=Z8r (hKB 0 w W hK0 hW);have HJ0:=Z8r h0;clear h0
 gi_wp2
 gi_loopw [4] (fun p wr=> ∃(a t f:Nat) (pre:List Ob),p= .int .i64 a∧Hid (J pre wr∧K t wr∧Stat6 ws g o cap sv bw bg base bl bt gv wr∧ws.length<f+a∧0<f∧a≤ws.length∧pre.length≤a∧Zp ws shs old=YN ws shs old f a t pre))
  (fun p _=>ws.length- (intOf p).toNat)
 case atStart=>exact⟨0,0,ws.length+1,[],rfl,Z8r ⟨HJ0.out,HK0.out,HS0.out,by omega,by omega,by omega,by simp,rfl⟩⟩
 case round=>
  obtain⟨a,t,f,pre,rfl,HI⟩:=hrel;have hst':=HI.out.2.2.1;have hsv:=hst'.sv_;have c1:wr.cell? ⟨bw,0,none⟩=some sv:=by rw[Z8s _ _ _ _ _ _ hst'.hbw];rfl
  have c2:wr.cell? ⟨bg,0,none⟩=some gv:=by rw[Z8s _ _ _ _ _ _ hst'.hbg];rfl
  have hlen:=hst'.words.len;clear hst';by_cases hlt:a<ws.length
  ·obtain⟨x,hx⟩: ∃x,ws[a]? =some x:=⟨_,Z8n hlt⟩;obtain rfl:sv= .slice (some ⟨g,o,none⟩) ws.length cap:=hsv.resolve_right (fun h=>by rw[h.1]at hlt;simp at hlt);clear hsv;have hlt':((a:Int) <ws.length)=True:=ZaJ (by omega);have hb:=hbeg wr a t x HI.out.2.2.1.words (by have:=HI.out.2.2.1.lt;omega) HI.out.2.1 hx;cases ho:objR shs old a t x with
   |none=>
    rw[ho]at hb;have HX:=Z8r hb;clear hb
    gi_wp2
    refine⟨trivial,fun h=>(by cases h),(Zas.2 HX.out).mono ?_⟩;rintro e w1 ⟨hg1,rfl⟩;have HG1:=Z8r hg1;clear hg1
    gi_wp2
    refine⟨rfl,.inr ⟨_,pre,rfl,⟨3,.inr rfl,rfl,?_⟩,hJ _ _ _ _ HI.out.1 HG1.out (fun r e=>e.symm)⟩⟩;obtain⟨_,_,_,hf,hf0,_,_,hR⟩:=HI.out;cases f with
    |zero=>omega
    |succ f=>
     rw[hR,YN,hx];simp only;rw[ho]
   |some q=>
    obtain⟨ob,t'⟩:=q;rw[ho]at hb;have HX:=Z8r hb;clear hb;obtain⟨hsh,hat⟩:=Vk ho
    gi_wp2
    refine⟨trivial,fun h=>(by cases h),(Zas.2 HX.out).mono ?_⟩;rintro e w1 ⟨hg1,rfl,hk1⟩;have HG1:=Z8r hg1;have HK1:=Z8r hk1;have hS1:=HI.out.2.2.1.grown hg1;have HS1:=Z8r hS1
    have e1: ∀O,(w1.alloc O).cell? ⟨bw,0,none⟩=some (.slice (some ⟨g,o,none⟩) ws.length cap):=fun O=>by
     rw[Z9B _ _ _ (Za hS1.hbw),Z8s _ _ _ _ _ _ hS1.hbw];rfl
    have hgO:wr.grownBy (w1.alloc (.cells #[.int .i64 a,.int .i64 ob.size,.int .i64 ob.ptrs,.bool ob.gone,.int .u64 ob.target] 49)) bt:=Ya hg1 (Z9K _ _ _);have hSO:=Z8r (HI.out.2.2.1.grown hgO);have hh:=jW (w1.alloc (.cells #[.int .i64 a,.int .i64 ob.size,.int .i64 ob.ptrs,.bool ob.gone,.int .u64 ob.target] 49)) ws g o cap hSO.out.words (by have:=hSO.out.lt;omega) ob a hat hlt hsh;unfold obA at hh;rw[hat]at hh;have HGO:=Z8r hgO;have HHold:=Z8r hh;have hstep: ∀f pre,YN ws shs old (f+1) a t pre=_:=fun f pre=>qE ws shs old hx ho (f:=f) (pre:=pre);have HST:=Z8r hstep;clear hg1 hk1 hS1 hgO hh hstep hx;unfold obA
    gi_wp2
    refine⟨trivial,fun h=>(by cases h),(Zas.2 HHold.out).mono ?_⟩;rintro e w2 ⟨rfl,hb2⟩;have hG2:wr.grownBy w2 bt:=Ya HGO.out (YJ hb2 bt);have HG2:=Z8r hG2;have HB2:=Z8r hb2;unfold Z24;by_cases h1:(ws.length:Int) <ob.at_+1+ob.size
    ·rw[if_pos h1];rw[hat]at h1;clear hb2 hG2
     gi_wp2
     refine⟨rfl,.inr ⟨_,pre,rfl,⟨2,.inl rfl,rfl,?_⟩,hJ _ _ _ _ HI.out.1 HG2.out (fun r e=>e.symm)⟩⟩;obtain⟨_,_,_,hf,hf0,_,_,hR⟩:=HI.out;obtain⟨f,rfl⟩: ∃f',f=f'+1:=⟨f-1,by omega⟩;rw[hR,HST.out,if_pos h1]
    ·rw[if_neg h1];by_cases h2:ZL ((ws.drop (ob.at_.toNat+1)).take ob.size.toNat) ob.gone ob.ptrs 0=false
     ·rw[if_pos h2];rw[hat]at h1 h2;clear hb2 hG2
      gi_wp2
      refine⟨rfl,.inr ⟨_,pre,rfl,⟨3,.inr rfl,rfl,?_⟩,hJ _ _ _ _ HI.out.1 HG2.out (fun r e=>e.symm)⟩⟩;obtain⟨_,_,_,hf,hf0,_,_,hR⟩:=HI.out;obtain⟨f,rfl⟩: ∃f',f=f'+1:=⟨f-1,by omega⟩;rw[hR,HST.out,if_neg (by omega)];simp only[Z8B]at h2;rw[if_pos h2]
     ·rw[if_neg h2];rw[hat]at h1 h2;simp only[Z8B]at h2;have HH2:=Z8r (And.intro h1 h2);have hJ2:=hJ _ _ _ _ HI.out.1 hG2 (fun r e=>e.symm);have HJ2:=Z8r hJ2;have HS2:=Z8r (HI.out.2.2.1.grown hG2);have hbx:w2.heap[w1.heap.size]? =some (.cells #[.int .i64 a,.int .i64 ob.size,.int .i64 ob.ptrs,.bool ob.gone,.int .u64 ob.target] 49 (0,0)):=(hb2.block _ (by simp)).trans (Z8C w1 _);have HBX:=Z8r hbx;obtain⟨fn,tmps,assign,body,hy,hR⟩:=hY pre ob w2 hJ2 (by have:=HI.out.2.2.2.2.2.2.1;omega);unfold obA at hy;rw[hat]at hy;have d0:w2.cell? ⟨w1.heap.size,0,none⟩=some (.int .i64 a):=by rw[Z8s _ _ _ _ _ _ hbx];rfl
      have d1:w2.cell? ⟨w1.heap.size,1,none⟩=some (.int .i64 ob.size):=by rw[Z8s _ _ _ _ _ _ hbx];rfl
      have d2:w2.cell? ⟨w1.heap.size,2,none⟩=some (.int .i64 ob.ptrs):=by rw[Z8s _ _ _ _ _ _ hbx];rfl
      have d3:w2.cell? ⟨w1.heap.size,3,none⟩=some (.bool ob.gone):=by rw[Z8s _ _ _ _ _ _ hbx];rfl
      have d4:w2.cell? ⟨w1.heap.size,4,none⟩=some (.int .u64 ob.target):=by rw[Z8s _ _ _ _ _ _ hbx];rfl
      clear hb2 hG2 hJ2 hbx
      gi_wp2
      refine⟨fun h=>(by cases h),hR.mono ?_⟩;rintro e W3 ⟨rfl,hJ3,hk3⟩;have HJ3:=Z8r hJ3;have HK3:=Z8r hk3
      have hrow2:rowB w2 bl≠some w1.heap.size:=by
       intro e;have hlb:bl<wr.heap.size:=by have:=HI.out.2.2.1.lt.2.2.2;omega
       have:rowB w2 bl=rowB wr bl:=by
        unfold rowB;rw[Z9v (a:=⟨bl,0,none⟩) (HG2.out.block bl hlb hltb)]
       rw[this]at e;have:=hJx _ _ HI.out.1 _ e;have:=HG1.out.size;omega
      have hbx3:=hk3.same _ _ HBX.out rfl (by have:=HI.out.2.2.1.lt.2.2.2;have:=HG1.out.size;omega) (.inr hrow2);have f1:W3.cell? ⟨w1.heap.size,1,none⟩=some (.int .i64 ob.size):=by rw[Z8s _ _ _ _ _ _ hbx3];rfl
      have hS3:=HS2.out.kp hk3;have hK2:K t' w2:=hKB _ _ _ HK1.out (((Z8E _ _).alloc (Z8v _) _).trans (HB2.out.mono (by simp)));have hK3:=hKK _ _ _ hK2 hk3;have HS3:=Z8r (And.intro hS3 hK3);obtain⟨m,hm⟩: ∃m:Nat,ob.size=m:=⟨ob.size.toNat,by have:=(Z4.1 hsh).1;omega⟩;rw[hm]at f1;have hm5:(m:Int)≤255:=by have:=(Z4.1 hsh);omega
      have q1:IntKind.i64.wrap (1+(m:Int))=((1+m:Nat):Int):=by rw[Z1 _ (by omega) (by omega)];omega
      have q2:IntKind.i64.wrap ((a:Int)+((1+m:Nat):Int))=((a+(1+m):Nat):Int):=by rw[Z1 _ (by omega) (by omega)];omega
      clear hJ3 hk3 hbx3 hS3 hK2 hK3 hrow2;clear h2
      gi_wp2
      obtain⟨_,_,_,hf,hf0,hal,hpl,hR⟩:=HI.out;obtain⟨f,rfl⟩: ∃f',f=f'+1:=⟨f-1,by omega⟩;rw[HST.out,if_neg (by have:=HH2.out.1;omega),if_neg HH2.out.2]at hR;have hle:a+1+m≤ws.length:=by omega
      refine⟨⟨a+(1+m),t',f,pre++ [ob],by simp,Z8r ⟨HJ3.out,HS3.out.2,HS3.out.1,by omega,by omega,by omega,by simp;omega,?_⟩⟩,by simp[intOf];omega⟩;rw[hR,hm,Z8B,Z9i a 1 m]
  ·have hnlt:((a:Int) <ws.length)=False:=Zan (by omega)
   have HE:Hid (endS ws shs old K pre wr):=Z8r (by
    obtain⟨_,hK,_,hf,hf0,_,_,hR⟩:=HI.out;refine⟨t,hK,?_⟩;cases f with
    |zero=>omega
    |succ f=>
     rw[hR,YN,Z9x (by omega)])
   obtain⟨sa,sc,rfl⟩: ∃sa sc,sv= .slice sa ws.length sc:=by
    rcases hsv with rfl| ⟨h0,sa,sc,rfl⟩
    ·exact⟨_,_,rfl⟩
    ·exact⟨sa,sc,by rw[h0];rfl⟩
   clear hsv
   gi_wp2
   go_end0
   exact .inl ⟨_,pre,rfl,HE.out,HI.out.1⟩
end Vm
namespace Vm
open Go Go.Proofs Go.RowKit Go.Shelf
set_option maxHeartbeats 1000000
set_option maxRecDepth 100000
theorem jG(w:World)(sv gv:Value)(hs: ∃a n c,sv= .slice a n c)(hg:gv= .nilFunc∨ ∃f vs,gv= .func (.func f) #[] vs):
  Calls Try.prog 124 #[sv,gv] w fun e w'=>e= .returned (.func (.func 125) #[] #[.pointer (some ⟨w.heap.size,0,none⟩),.pointer (some ⟨w.heap.size+1,0,none⟩)])∧
   w'=(w.alloc (.cells #[sv] 23)).alloc (.cells #[gv] 183):=by
 have hmf: ∀(fn:Go.Fn) (first cap:Array Value) (w:World),(Instr.makeFunc fn first cap).run Try.prog w= .ok (.func fn first cap) w:=fun _ _ _ _=>rfl;obtain⟨a,n,c,rfl⟩:=hs;rcases hg with rfl| ⟨f,vs,rfl⟩
 ·go_enter Try.func124,Try.ntmps124;go_wp2;exact Z8K (results_tmp rfl _ _ _) rfl ⟨rfl,rfl⟩
 ·go_enter Try.func124,Try.ntmps124;go_wp2;exact Z8K (results_tmp rfl _ _ _) rfl ⟨rfl,rfl⟩
theorem Z43(w:World):Sem.run Try.prog (binOp .neq 20 .nilIface .nilIface) w= .ok (.bool false) w:=by rfl
theorem Z4p(w:World)(T:TypeId)(v:Value):Sem.run Try.prog (binOp .neq 20 (.iface T v) .nilIface) w= .ok (.bool true) w:=by rfl
theorem Z7c(w:World)(x:Int):Sem.run Try.prog (Instr.typeAssert (.iface 182 (.agg #[.int .i64 x])) 20 182 true) w= .ok (.tuple #[.agg #[.int .i64 x],.bool true]) w:=by rfl
theorem qJ(n:Nat)(p q:Addr)(w:World):
  CallsDIn Fence.wide n Try.prog 123 #[.pointer (some p),.pointer (some q)] .returning w fun e u' w'=>e= .returned (.tuple #[])∧u'= .returning∧w'=w:=by
 have h1:=Z43;refine callsDIn_of_wpSIn Try.func123 rfl trivial fun c₀ cs hu=> ?_;simp only[Try.ntmps123,Z9F,Z9o,Z9L,Nat.reduceAdd,Nat.reduceSub,Zad,Zae,Zay,Zam,Z9d,Z9s];apply wpSIn_seq;apply wpSIn_region;simp[wpOpsSIn,go_sem,recoverD,hu,Exit.thenS];refine wpSIn_of_wpIn rfl ?_
 gi_wp2
 cases c₀;simp_all [bodyPostS,results,Try.results123]
theorem R2(n:Nat)(bp bq:Nat)(x:Int)(w:World)(vp vq:Value)(hp:Boxed w bp 43 vp)(hq:Boxed w bq 36 vq)(hne:bp≠bq):
  CallsDIn Fence.wide n Try.prog 123 #[.pointer (some ⟨bp,0,none⟩),.pointer (some ⟨bq,0,none⟩)] (.panicking (Xk x)) w fun e u' w'=>
   e= .returned (.tuple #[])∧u'= .panicking [{v:= .iface 182 (.agg #[.int .i64 x]),recovered:=true}]∧
   Boxed w' bp 43 (.slice none 0 0)∧Boxed w' bq 36 (.int .i64 x)∧(w.heap.size≤w'.heap.size∧ ∀k,k<w.heap.size→k≠bp→k≠bq→w'.heap[k]? =w.heap[k]?)∧w'.os=w.os∧w'.tape=w.tape∧w'.output=w.output:=by
 have h1:=Z4p;have h2:=Z7c;have p1:=(hp.alloc (.cells #[.int .i64 x] 182)).cell;have p2:=(hp.alloc (.cells #[.int .i64 x] 182)).frozen;have q1:=(hq.alloc (.cells #[.int .i64 x] 182)).cell;have q2:=(hq.alloc (.cells #[.int .i64 x] 182)).frozen;have p3:=hp.cell;have p4:=hp.frozen;have q3:=hq.cell;have q4:=hq.frozen;have l1:=hp.lt;have l2:=hq.lt;have n1: ¬bp=bq:=hne;have n2: ¬bq=bp:=fun e=>hne e.symm;have n3: ¬bp=w.heap.size:=by omega
 have n4: ¬w.heap.size=bp:=by omega
 have n5: ¬bq=w.heap.size:=by omega
 have n6: ¬w.heap.size=bq:=by omega
 have HP:=Z8r (And.intro hp hq);clear hp hq hne;refine callsDIn_of_wpSIn Try.func123 rfl trivial fun c₀ cs hu=> ?_;simp only[Try.ntmps123,Z9F,Z9o,Z9L,Nat.reduceAdd,Nat.reduceSub,Zad,Zae,Zay,Zam,Z9d,Z9s];apply wpSIn_seq;apply wpSIn_region;simp[wpOpsSIn,go_sem,recoverD,hu,Xk,Exit.thenS];refine wpSIn_of_wpIn rfl ?_
 gi_wp2
 gi_region
 all_goals gi_wp2
 obtain⟨hp,hq⟩:=HP.out;have b1:Boxed ((w.setCell ⟨bp,0,none⟩ (.slice none 0 0)).setCell ⟨bq,0,none⟩ (.int .i64 x)) bp 43 (.slice none 0 0):=(Z8I _ ⟨bq,0,none⟩ _ bp n1).trans (hp.set _);have b2:Boxed ((w.setCell ⟨bp,0,none⟩ (.slice none 0 0)).setCell ⟨bq,0,none⟩ (.int .i64 x)) bq 36 (.int .i64 x):=Boxed.set _ (show Boxed (w.setCell ⟨bp,0,none⟩ (.slice none 0 0)) bq 36 vq from(Z8I _ ⟨bp,0,none⟩ _ bq n2).trans hq);refine⟨rfl,_,rfl,_,by simp[results,Try.results123],rfl,rfl,b1.alloc _,b2.alloc _,⟨?_,fun k hk k1 k2=> ?_⟩,rfl,rfl,rfl⟩
 ·show _≤(World.alloc _ _).heap.size;rw[Za2];simp[World.setCell]
 ·show(World.alloc _ _).heap[k]? =_;rw[Z8t _ _ _ (by simp[World.setCell];exact hk),Z8I _ _ _ _ k2,Z8I _ _ _ _ k1]
end Vm
namespace Vm
open Go Go.Proofs Go.RowKit Go.Shelf
set_option maxHeartbeats 1000000
set_option maxRecDepth 100000
def obC(ob:Ob):List Value:= [.int .i64 ob.at_,.int .i64 ob.size,.int .i64 ob.ptrs,.bool ob.gone,.int .u64 ob.target]
def obsC(l:List Ob):List Value:=l.flatMap obC
theorem Z0a(l:List Ob)(x:Ob):obsC (l++ [x])=obsC l++obC x:=by simp[obsC]
structure WIv (w:World) (bt:Option Nat) (pre:List Ob) (W:World):Prop where
 row: ∃v,Boxed W w.heap.size 43 v∧W.ownsRow (w.heap.size+4) 49 5 v pre.length (obsC pre)
 e:Boxed W (w.heap.size+1) 36 (.int .i64 0)
 gr:w.grownBy W bt
 size:w.heap.size+4≤W.heap.size
theorem Yo{w X Y:World}{bt row:Option Nat}(h:w.grownBy X bt)(k:X.grownBy Y row)(hr: ∀r,row=some r→some r=bt∨w.heap.size≤r):w.grownBy Y bt:=
 ⟨k.os.trans h.os,k.tape.trans h.tape,k.output.trans h.output,Z8Y h.size k.size,fun i hi hn=>
  (k.block i (Z8z hi h.size) (fun e=>by rcases hr i e.symm with e2|e2;exact hn e2;omega)).trans (h.block i hi hn)⟩
theorem Qn{W:World}{b:Nat}{t:TypeId}{v:Value}(h:Boxed W b t v):rowB W b=v.ownBlock:=by
 unfold rowB;rw[h.cell];rfl
theorem WIv.rowIn{w:World}{bt:Option Nat}{pre:List Ob}{W:World}(h:WIv w bt pre W):Z4l w.heap.size W:=by
 obtain⟨v,hv,hr⟩:=h.row;intro k hk;rw[Qn hv]at hk;exact(hr.lt k hk).2
theorem WIv.own{w:World}{bt:Option Nat}(hbt: ∀r,bt=some r→r<w.heap.size):OwnP bt (w.heap.size+4) (WIv w bt):=by
 intro s X Y row h hg hr
 have hne: ∀k,w.heap.size≤k→k<w.heap.size+4→some k≠row:=by
  intro k h1 h2 e;rcases hr k e.symm with e2| ⟨e2,_⟩
  ·have:=hbt k e2.symm;omega
  ·omega
 obtain⟨v,hv,hrow⟩:=h.row;refine⟨⟨v,hv.kept hg (hne _ (Z8v _) (by omega)),hrow.kept hg ?_⟩,h.e.kept hg (hne _ (by omega) (by omega)),Yo h.gr hg fun r e=>(hr r e).imp id fun h2=>by omega,Z8Y h.size hg.size⟩;cases hb:v.ownBlock with
 |none=>exact .inl rfl
 |some b=>
  refine .inr fun e=> ?_;have h1:=hrow.lt b hb;rcases hr b e.symm with e2| ⟨_,o,ho,hc⟩
  ·have:=hbt b e2.symm;omega
  ·rcases hrow.2 with ⟨rfl,_⟩ | ⟨g,cap,cur,rfl,_,hgb,_⟩
   ·simp[Value.ownBlock]at hb
   ·obtain rfl:g=b:=by simpa[Value.ownBlock]using hb
    rw[hgb]at ho;cases ho;cases hc
theorem WIv.appended{w W w1:World}{bt:Option Nat}{pre:List Ob}{x:Ob}{v v':Value}{tmp:Obj}(hbt: ∀r,bt=some r→r<w.heap.size)(h:WIv w bt pre W)(hv:Boxed W w.heap.size 43 v)
  (hrow:W.ownsRow (w.heap.size+4) 49 5 v pre.length (obsC pre)) (hown':w1.ownsRow (w.heap.size+4) 49 5 v' (pre.length+1) (obsC pre++obC x))
  (hgrow:(W.alloc tmp).grownBy w1 v.ownBlock) (hat:v'.ownBlock=v.ownBlock∨v'.ownBlock=some (W.alloc tmp).heap.size):
  Boxed w1 w.heap.size 43 v∧KeepsFrom (w.heap.size+4) W (w1.setCell ⟨w.heap.size,0,none⟩ v')∧KpW w.heap.size (w.heap.size+4) W (w1.setCell ⟨w.heap.size,0,none⟩ v')∧WIv w bt (pre++ [x]) (w1.setCell ⟨w.heap.size,0,none⟩ v'):=by
 have hsz:=h.size;obtain⟨hv1,hv2,hr2,hk2,hb2⟩:=hv.appended (by decide) (Wl hrow (B':=w.heap.size) (by omega)) (by omega) (Z8v _) (Wl hown' (B':=w.heap.size) (by omega)) hgrow;have hlow: ∀b,v.ownBlock=some b→w.heap.size+4≤b:=fun b hb=>(hrow.lt b hb).1
 have hrow2:(w1.setCell ⟨w.heap.size,0,none⟩ v').ownsRow (w.heap.size+4) 49 5 v' (pre.length+1) (obsC pre++obC x):=hown'.kept (ZaG w1 w.heap.size v') (by
  cases hb:v'.ownBlock with
  |none=>exact .inl rfl
  |some b=>exact .inr fun e=>by have h1:=(hown'.lt b hb).1;cases e;omega)
 refine⟨hv1,hk2.from _,⟨hk2.size,fun k o hk hc hn hr=> ?_,fun k hk e=> ?_⟩,⟨v',hv2,?_⟩,?_,?_,Z8Y hsz hk2.size⟩
 ·rw[Z8I _ _ _ _ hn,hgrow.block k (by have:=Za hk;simp;omega) (fun e=> ?_),Z8t _ _ _ (Za hk),hk];rcases hr with hr|hr
  ·have:=hlow k e.symm;omega
  ·exact hr ((Qn hv).trans e.symm)
 ·rw[Qn hv2]at e;rw[Qn hv];rcases hat with hat|hat
  ·rw[←hat];exact e
  ·rw[hat]at e;simp at e;omega
 ·rw[Z8W,Z0a];exact hrow2
 ·have he1:Boxed w1 (w.heap.size+1) 36 (.int .i64 0):=(h.e.alloc tmp).kept hgrow (fun e=>by have:=hlow _ e.symm;omega);exact(Z8I _ _ _ _ (by show w.heap.size+1≠w.heap.size;omega)).trans he1
 ·refine Yo (Yo (Yo h.gr (Z9K W tmp none) (by simp)) hgrow fun r e=> .inr ?_) (ZaG w1 w.heap.size v') fun r e=> .inr ?_
  ·have:=hlow r e;omega
  ·cases e;exact Z8v _
theorem KpW.alloc{bl base:Nat}{W:World}(o:Obj)(hbl:bl<W.heap.size):KpW bl base W (W.alloc o):=by
 refine⟨by simp,fun k o2 hk _ _ _=>(Z8t _ _ _ (Za hk)).trans hk,fun k _ hr=> ?_⟩;unfold rowB at hr⊢;rw[Z9B _ _ _ hbl]at hr;exact hr
end Vm
namespace Vm
open Go Go.Proofs Go.RowKit Go.Shelf
attribute [local go_sem] Oper.semAt_some
set_option maxHeartbeats 1000000
set_option maxRecDepth 100000
theorem Z7u:(Try.prog.info? 49).map (fun i=>(i.zero,i.size,i.bytes))=some (some (.agg #[.int .i64 0,.int .i64 0,.int .i64 0,.bool false,.int .u64 0]),5,40):=by kernel_rfl
theorem unO:Try.prog.underlying 43=some (.slice 49):=by kernel_rfl
theorem qT(w:World)(a b c d e:Value)(t:TypeId): ∀j u,[a,b,c,d,e][j]? =some u→(w.alloc (.cells #[a,b,c,d,e] t)).cell? ((⟨w.heap.size,0,none⟩:Addr).add j)=some u:=by
 intro j u h;have:=Z8s _ _ j _ _ _ (Z8C w (.cells #[a,b,c,d,e] t));have e2:(⟨w.heap.size,0,none⟩:Addr).add j=⟨w.heap.size,j,none⟩:=by unfold Addr.add;split<;>simp_all
 rw[e2,this];simpa using h
def jF(w:World)(ws:List Int)(shs:List (Int×Int))(old:Bool)(bt:Option Nat)(K:Nat→World→Prop)(e:Ending)(W:World):Prop:=
 ∃v n xs,e= .returned (.tuple #[v,.int .i64 n])∧w.grownBy W bt∧W.ownsRow (w.heap.size+4) 49 5 v xs.length (obsC xs)∧((n=0∧endS ws shs old K xs W)∨((n=2∨n=3)∧xs= []∧Zp ws shs old=([],n)))
theorem JN{w:World}{ws:List Int}{g o cap:Nat}{bt:Option Nat}{sv gv:Value}{shs:List (Int×Int)}{old:Bool}{K:Nat→World→Prop}(hw:Words w ws g o cap)
  (hsv:sv= .slice (some ⟨g,o,none⟩) ws.length cap∨(ws= []∧ ∃a c,sv= .slice a 0 c)) (hg:(ws≠ []→g<w.heap.size)∧g<w.heap.size+4∧g≠w.heap.size) (hgv:gv= .nilFunc∨ ∃f vs,gv= .func (.func f) #[] vs)
  (hbt: ∀r,bt=some r→r<w.heap.size) (hgt:some g≠bt) (hbeg:Z1z ws g o cap gv shs old bt K) (hK0:K 0 w)
  (hKG: ∀t A B row,K t A→A.grownBy B row→(∀r,row=some r→w.heap.size≤r)→K t B)
  (hKK: ∀bl base t A B,w.heap.size≤bl→w.heap.size≤base→K t A→KpW bl base A B→K t B):
  Calls Try.prog 120 #[sv,gv] w (jF w ws shs old bt K):=by
 refine(Zas (n:=5)).1 ?_;have hmf: ∀(fn:Go.Fn) (first cap:Array Value) (w:World),(Instr.makeFunc fn first cap).run Try.prog w= .ok (.func fn first cap) w:=fun _ _ _ _=>rfl
 have hsf: ∃a n c,sv= .slice a n c:=by
  rcases hsv with rfl| ⟨_,a,c,rfl⟩
  ·exact⟨_,_,_,rfl⟩
  ·exact⟨_,_,_,rfl⟩
 refine callsIn_of_wp_marks Try.func120 rfl trivial ?_ rfl;simp only[Try.ntmps120,Z9F,Z9o,Z9L,Nat.reduceAdd,Nat.reduceSub,Zad,Zae,Zay,Zam,Z9d,Z9s];have he:=fun W=>jG W sv gv hsf hgv
 gi_wp2
 refine⟨trivial,(Zas.2 (he _)).mono ?_⟩;rintro e w1 ⟨rfl,rfl⟩
 gi_wp2
 have hnx: ∀b:Nat,b<w.heap.size→((((w.alloc (Obj.cells #[.slice none 0 0] 43)).alloc (.cells #[.int .i64 0] 36)).alloc (.cells #[sv] 23)).alloc (.cells #[gv] 183)).heap[b]? =w.heap[b]? :=fun b hb=>by
  rw[Z8t _ _ _ (by simp;omega),Z8t _ _ _ (by simp;omega),Z8t _ _ _ (by simp;omega),Z8t _ _ _ hb]
 have b0:Boxed ((((w.alloc (Obj.cells #[.slice none 0 0] 43)).alloc (.cells #[.int .i64 0] 36)).alloc (.cells #[sv] 23)).alloc (.cells #[gv] 183)) w.heap.size 43 (.slice none 0 0):=(((Boxed.new w _ _).alloc _).alloc _).alloc _
 have b1:Boxed ((((w.alloc (Obj.cells #[.slice none 0 0] 43)).alloc (.cells #[.int .i64 0] 36)).alloc (.cells #[sv] 23)).alloc (.cells #[gv] 183)) (w.heap.size+1) 36 (.int .i64 0):=by
  have:=((Boxed.new (w.alloc (Obj.cells #[.slice none 0 0] 43)) 36 (.int .i64 0)).alloc (.cells #[sv] 23)).alloc (.cells #[gv] 183);rwa[Za2]at this
 have b2:Boxed ((((w.alloc (Obj.cells #[.slice none 0 0] 43)).alloc (.cells #[.int .i64 0] 36)).alloc (.cells #[sv] 23)).alloc (.cells #[gv] 183)) (w.heap.size+2) 23 sv:=by
  have:=(Boxed.new ((w.alloc (Obj.cells #[.slice none 0 0] 43)).alloc (.cells #[.int .i64 0] 36)) 23 sv).alloc (.cells #[gv] 183);simpa using this
 have b3:Boxed ((((w.alloc (Obj.cells #[.slice none 0 0] 43)).alloc (.cells #[.int .i64 0] 36)).alloc (.cells #[sv] 23)).alloc (.cells #[gv] 183)) (w.heap.size+3) 183 gv:=by
  have:=Boxed.new (((w.alloc (Obj.cells #[.slice none 0 0] 43)).alloc (.cells #[.int .i64 0] 36)).alloc (.cells #[sv] 23)) 183 gv;simpa using this
 have hgr:w.grownBy ((((w.alloc (Obj.cells #[.slice none 0 0] 43)).alloc (.cells #[.int .i64 0] 36)).alloc (.cells #[sv] 23)).alloc (.cells #[gv] 183)) bt:=⟨rfl,rfl,rfl,by simp;omega,fun k hk _=>hnx k hk⟩;have hsz:((((w.alloc (Obj.cells #[.slice none 0 0] 43)).alloc (.cells #[.int .i64 0] 36)).alloc (.cells #[sv] 23)).alloc (.cells #[gv] 183)).heap.size=w.heap.size+4:=by simp
 generalize hW0:(((w.alloc (Obj.cells #[.slice none 0 0] 43)).alloc (.cells #[.int .i64 0] 36)).alloc (.cells #[sv] 23)).alloc (.cells #[gv] 183)=W0 at*
 have hst:Stat6 ws g o cap sv (w.heap.size+2) (w.heap.size+3) (w.heap.size+4) w.heap.size bt gv W0:=by
  refine⟨⟨fun i x hx=> ?_,hw.le,hw.cap,hw.len,hw.u64⟩,hsv,b2,b3,fun hn=> ?_,⟨by omega,by omega,by omega,by omega⟩,⟨by omega,by omega,by omega⟩,hgt,?_,?_⟩
  ·rw[←hw.at_ i x hx];exact Z9v (hnx g (hg.1 (fun e=>by rw[e]at hx;simp at hx)))
  ·obtain⟨x,hx⟩: ∃x,ws[0]? =some x:=by cases ws with|nil=>exact absurd rfl hn|cons x l=>exact⟨x,rfl⟩
   have:=hw.at_ 0 x hx;rw[hnx g (hg.1 hn)];unfold World.cell? at this;cases hh:w.heap[g]? with
   |none=>simp[hh]at this
   |some ob=>
    refine⟨ob,rfl,?_⟩;rw[hh]at this;cases ob<;>simp_all [Obj.isCells]
  ·intro e;have:=hbt _ e.symm;omega
  ·intro e;have:=hbt _ e.symm;omega
 have hK0':K 0 W0:=hKG 0 w W0 none hK0 ⟨hgr.os,hgr.tape,hgr.output,hgr.size,fun k hk _=>hnx k hk⟩ (by simp);have hseq:=Z0E 4 hst (by omega) (fun e=>by have:=hbt _ e.symm;omega) hbeg hK0' (fun t A B hA hB=>hKG t A B none hA ⟨hB.os,hB.tape,hB.output,hB.size,fun k hk _=>hB.block k hk⟩ (by simp)) (fun t A B hA hB=>hKK _ _ t A B (Z8v _) (by omega) hA hB)
 refine Tw rfl (by omega) (gf:=125) (lb:= #[.pointer (some ⟨w.heap.size+2,0,none⟩),.pointer (some ⟨w.heap.size+3,0,none⟩)]) rfl trivial (enters_of Try.func125 (by kernel_rfl) rfl)
  hseq (fun r e=>by have:=hbt r e;omega) KpW.trans (fun W l o o' h1 h2 h3 _=>KpW.put o' h2 h3 (by omega)) (Z8E _ _) (fun _=>rfl)
  (WIv w bt) (hsz▸WIv.own hbt) (fun pre W h=>h.rowIn) ⟨⟨_,b0,Z9G _ _ _ _⟩,b1,hgr,by omega⟩ ?hS
  (fun x a' W=> ∃Bx,w.heap.size+4≤Bx∧W.heap[Bx]? =some (.cells #[.int .i64 x.at_,.int .i64 x.size,.int .i64 x.ptrs,.bool x.gone,.int .u64 x.target] 49 (0,0))∧
   a'= {tmps:= #[sv,gv,undef,undef,.pointer (some ⟨w.heap.size,0,none⟩),.pointer (some ⟨w.heap.size+1,0,none⟩),.pointer (some ⟨Bx,0,none⟩),
    .func (.func 123) #[] #[.pointer (some ⟨w.heap.size,0,none⟩),.pointer (some ⟨w.heap.size+1,0,none⟩)],sv,gv,.func (.func 125) #[] #[.pointer (some ⟨w.heap.size+2,0,none⟩),.pointer (some ⟨w.heap.size+3,0,none⟩)],obA x,undef,undef,undef,undef,undef],defers:= []})
  ?hAx ?assign ?body ?done ?panic
 case hS=>
  rintro xs X Y row ⟨t,hK,hR⟩ hgr2 hrow;exact⟨t,hKG t X Y row hK hgr2 fun r e=>(hrow r e).elim (fun e2=>by cases e2) (fun e2=>by omega),hR⟩
 case hAx=>
  rintro x a' s X Y row ⟨Bx,hB,hx,ha⟩ hgr2 hrow;refine⟨Bx,hB,(hgr2.block Bx (Za hx) fun e=> ?_).trans hx,ha⟩;rcases hrow Bx e.symm with e2| ⟨_,o2,h2,h3⟩
  ·cases e2
  ·rw[hx]at h2;cases h2;cases h3
 case assign=>
  rintro l pre x W K2 hi hK2;simp only[ZbD,Array.zip,obA]
  gi_wp2
  exact hK2 _ _ ((KeepsOthers.alloc W _).from _) (KpW.alloc _ (by have:=hi.size;omega)) ((WIv.own hbt).alloc _ hi) ⟨W.heap.size,hi.size,Z8C W _,rfl⟩
 case body=>
  rintro l pre x a' W hi ⟨Bx,hBx,hx,rfl⟩ hlen;obtain⟨v,hv,hrow⟩:=hi.row;obtain⟨i0,hin,hz0,hz1,hz2⟩:=info_parts Z7u;obtain⟨va,vc,rfl⟩:=Z3 hrow;have c1:=hv.cell;have c2:=hv.frozen;have d0:W.cell? ⟨Bx,0,none⟩=some (.int .i64 x.at_):=by rw[Z8s _ _ _ _ _ _ hx];rfl
  have d1:W.cell? ⟨Bx,1,none⟩=some (.int .i64 x.size):=by rw[Z8s _ _ _ _ _ _ hx];rfl
  have d2:W.cell? ⟨Bx,2,none⟩=some (.int .i64 x.ptrs):=by rw[Z8s _ _ _ _ _ _ hx];rfl
  have d3:W.cell? ⟨Bx,3,none⟩=some (.bool x.gone):=by rw[Z8s _ _ _ _ _ _ hx];rfl
  have d4:W.cell? ⟨Bx,4,none⟩=some (.int .u64 x.target):=by rw[Z8s _ _ _ _ _ _ hx];rfl
  have hpl:pre.length≤1000000:=Z8Y (Nat.le_of_lt hlen) hw.len;have hszW:=hi.size;have HA:=fun tmp w1 v'=>WIv.appended (W:=W) (w1:=w1) (x:=x) (v':=v') (tmp:=tmp) hbt hi hv hrow
  gi_wp2_with (gi_at_builtin;refine wpListIn_append_own_at _ rfl _ _ 43 rfl (w.heap.size+4) 49 i0 _ 5 40 unO hin hz0 hz1 hz2 rfl (by decide) _ _ _ rfl (hrow.alloc _) ⟨W.heap.size,0,none⟩ 1 1 (obC x) rfl rfl (qT _ _ _ _ _ _ _) (by simp[obC,Value.oneCell']) (by unfold maxLen;omega) (by omega) (by simp;omega) ?_;intro v' w1 hown' hgrow _ hat;obtain⟨g',cap',rfl⟩:=ownsRow_succ hown';obtain⟨e1,e2,e3,e4⟩:=HA _ _ _ hown' hgrow hat;have e5:=e1.cell;have e6:=e1.frozen)
  rw[hsz];exact⟨e2,e3,e4⟩
 case done=>
  rintro D xs W hD hS hi hD2;obtain⟨v,hv,hrow⟩:=hi.row;obtain⟨va,vc,rfl⟩:=Z3 hrow;have c1:=hv.cell;have c2:=hv.frozen;have c3:=hi.e.cell;have c4:=hi.e.frozen;rw[hsz]at hD
  gi_wp2
  have hDX:((W.setCell ⟨w.heap.size,0,none⟩ (.slice va xs.length vc)).setCell ⟨w.heap.size+1,0,none⟩ (.int .i64 0)).heap[D]? =some (.deferred (some [])):=by
   rw[Z8I _ _ _ _ (by show D≠w.heap.size+1;omega),Z8I _ _ _ _ (by show D≠w.heap.size;omega)];exact hD2
  have f0:Boxed ((W.setCell ⟨w.heap.size,0,none⟩ (.slice va xs.length vc)).setCell ⟨w.heap.size+1,0,none⟩ (.int .i64 0)) w.heap.size 43 (.slice va xs.length vc):=
   (Z8I _ _ _ _ (by show w.heap.size≠w.heap.size+1;omega)).trans (hv.set _)
  have f1:Boxed ((W.setCell ⟨w.heap.size,0,none⟩ (.slice va xs.length vc)).setCell ⟨w.heap.size+1,0,none⟩ (.int .i64 0)) (w.heap.size+1) 36 (.int .i64 0):=
   Boxed.set _ (show Boxed (W.setCell ⟨w.heap.size,0,none⟩ (.slice va xs.length vc)) (w.heap.size+1) 36 (.int .i64 0)from(Z8I _ _ _ _ (by show w.heap.size+1≠w.heap.size;omega)).trans hi.e)
  have g1:=ZaG W w.heap.size (.slice va xs.length vc);have g2:=ZaG (W.setCell ⟨w.heap.size,0,none⟩ (.slice va xs.length vc)) (w.heap.size+1) (.int .i64 0);have hlow:=hrow.lt
  have r2:=(hrow.kept g1 (by
   cases hb:(Value.slice va xs.length vc).ownBlock with
   |none=>exact .inl rfl
   |some b=>exact .inr fun e=>by have:=(hlow b hb).1;cases e;omega)).kept g2 (by
   cases hb:(Value.slice va xs.length vc).ownBlock with
   |none=>exact .inl rfl
   |some b=>exact .inr fun e=>by have:=(hlow b hb).1;cases e;omega)
  generalize hW2:(W.setCell ⟨w.heap.size,0,none⟩ (.slice va xs.length vc)).setCell ⟨w.heap.size+1,0,none⟩ (.int .i64 0)=W2 at*;have g3:=ZaO W2 D (.deferred none);have f0':Boxed (W2.putObj D (.deferred none)) w.heap.size 43 (.slice va xs.length vc):=(Z94 (by omega)).trans f0;have f1':Boxed (W2.putObj D (.deferred none)) (w.heap.size+1) 36 (.int .i64 0):=(Z94 (by omega)).trans f1;have k0:=f0'.cell;have k1:=f1'.cell;refine⟨by simp,.inl ⟨D,_,rfl,Zbj hDX,?_⟩⟩;refine⟨by simp,.inr ⟨fun h=>(by cases h),.func 123,_,123, #[.pointer (some ⟨w.heap.size,0,none⟩),.pointer (some ⟨w.heap.size+1,0,none⟩)],rfl,by simp[go_sem],fun _ _=>trivial,?_⟩⟩;refine(qJ _ _ _ _).mono ?_;rintro e u' w'' ⟨rfl,rfl,rfl⟩;refine⟨.tuple #[.slice va xs.length vc,.int .i64 0],by simp[results,Try.results120,go_sem,k0,k1],?_⟩;obtain⟨t,hK,hR⟩:=hS;refine⟨_,0,xs,rfl,Yo (Yo (Yo hi.gr g1 fun r e=> .inr ?_) g2 fun r e=> .inr ?_) g3 fun r e=> .inr ?_,ownsRow_putObj r2 _ hDX rfl,.inl ⟨rfl,t,hKG t _ _ _ (hKG t _ _ _ (hKG t _ _ _ hK g1 fun r e=> ?_) g2 fun r e=> ?_) g3 fun r e=> ?_,hR⟩⟩
  all_goals (cases e;omega)
 case panic=>
  rintro D chain pre W hD ⟨e,he2,rfl,hWk⟩ hi hD2;rw[hsz]at hD;obtain⟨v,hv,hrow⟩:=hi.row;have g3:=ZaO W D (.deferred none);have f0':Boxed (W.putObj D (.deferred none)) w.heap.size 43 v:=(Z94 (by omega)).trans hv;have f1':Boxed (W.putObj D (.deferred none)) (w.heap.size+1) 36 (.int .i64 0):=(Z94 (by omega)).trans hi.e;have hg4:w.grownBy (W.putObj D (.deferred none)) bt:=Yo hi.gr g3 fun r e=> .inr (by cases e;omega);refine⟨by simp,.inl ⟨D,_,rfl,Zbj hD2,?_⟩⟩;refine⟨by simp,.inr ⟨fun h=>(by cases h),.func 123,_,123, #[.pointer (some ⟨w.heap.size,0,none⟩),.pointer (some ⟨w.heap.size+1,0,none⟩)],rfl,by simp[go_sem],fun _ _=>trivial,?_⟩⟩;refine(R2 _ w.heap.size (w.heap.size+1) e _ _ _ f0' f1' (by omega)).mono ?_;rintro e' u' w'' ⟨rfl,rfl,h0,h1,⟨hs2,hk⟩,hos,htape,hout⟩;have k0:=h0.cell;have k1:=h1.cell;refine⟨.tuple #[.slice none 0 0,.int .i64 e],by simp[results,Try.results120,go_sem,k0,k1],?_⟩;refine⟨_,e,[],rfl,⟨hos.trans hg4.os,htape.trans hg4.tape,hout.trans hg4.output,Z8Y hg4.size hs2,fun k hk2 hn=> ?_⟩,Z9G _ _ _ _,.inr ⟨he2,rfl,hWk⟩⟩;exact(hk k (Z8z hk2 hg4.size) (by omega) (by omega)).trans (hg4.block k hk2 hn)
end Vm
namespace Vm
open Go Go.Proofs Go.RowKit Go.Shelf
set_option maxHeartbeats 1000000
set_option maxRecDepth 100000
theorem Lc{w:World}{G:Nat→Prop}{k:IntKind}{n:Int}{v:Value}(r:Rd w G (.int k n) v):v= .int k n:=by cases r;rfl
theorem S2{w:World}{G:Nat→Prop}{ws:List Int}{v:Value}(r:Rd w G (.sl (ws.map vu)) v)(hG: ∀b,G b→b<w.heap.size)(hl:ws.length≤1000000)(hu: ∀x∈ws,U64 x)(q:Nat):
  ∃g o cap,Words w ws g o cap∧(v= .slice (some ⟨g,o,none⟩) ws.length cap∨(ws= []∧ ∃a c,v= .slice a 0 c))∧((ws≠ []→g<w.heap.size)∧(g<w.heap.size∨g=q)):=by
 generalize hL:ws.map vu=L at r;cases r with
 |nil a cap hc=>
  have:ws= []:=ZaZ.1 hL;subst this;exact⟨q,0,0,⟨fun i x hx=>by simp at hx,by simp,by unfold maxLen;omega,by simp,by simp⟩,.inr ⟨rfl,a,cap,rfl⟩,fun h=>absurd rfl h,.inr rfl⟩
 |sl _ b o cap k vs h1 h2 h3 h4 h5 h6=>
  subst hL;simp only[Z8P]at h1 h5⊢;refine⟨b,o,cap,⟨fun i x hx=> ?_,h1,h2,hl,hu⟩,.inl rfl,fun _=>hG b h3,.inl (hG b h3)⟩;have hm:(ws.map vu)[i]? =some (vu x):=by rw[Z8D,hx];rfl
  have hk:k=1:=((h4 _ (Z8x hm)).1).symm;subst hk;have hi:i<ws.length:=(Z8o.1 hx).1;rw[h5 i (by omega)];have:=h6 i (vu x) (by have:=WA h4 hm 0 (by omega);simpa using this);rw[Lc this]
theorem qq{w:World}{G:Nat→Prop}{shs:List (Int×Int)}{v:Value}(r:Rd w G (.sl (shs.map shP)) v)(hG: ∀b,G b→b<w.heap.size):
  (∃g o cap,v= .slice (some ⟨g,o,none⟩) shs.length cap∧shs.length≤cap∧cap≤maxLen∧g<w.heap.size∧ ∀(i:Nat) (x:Int×Int),shs[i]? =some x→w.cell? ⟨g,o+i*2,none⟩=some (.int .i64 x.1)∧w.cell? ⟨g,o+i*2+1,none⟩=some (.int .i64 x.2))∨
  (∃a cap,v= .slice a 0 cap∧shs= []):=by
 generalize hL:shs.map shP=L at r;cases r with
 |nil a cap hc=>
  have:shs= []:=ZaZ.1 hL;exact .inr ⟨a,cap,rfl,this⟩
 |sl _ b o cap k vs h1 h2 h3 h4 h5 h6=>
  subst hL;simp only[Z8P]at h1 h5⊢;refine .inl ⟨b,o,cap,rfl,h1,h2,hG b h3,fun i x hx=> ?_⟩;have hm:(shs.map shP)[i]? =some (shP x):=by rw[Z8D,hx];rfl
  have hk:k=2:=((h4 _ (Z8x hm)).1).symm;subst hk;have hi:i<shs.length:=(Z8o.1 hx).1;have e0:=h6 (i*2) (vi x.1) (by have:=WA h4 hm 0 (by omega);simpa using this);have e1:=h6 (i*2+1) (vi x.2) (by have:=WA h4 hm 1 (by omega);simpa using this);refine⟨?_,?_⟩
  ·rw[h5 (i*2) (by omega)];rw[Lc e0]
  ·rw[Z9i,h5 (i*2+1) (by omega)];rw[Lc e1]
theorem JF{w:World}{G:Nat→Prop}: ∀(l:List Ob) (i:Nat) (c:V),(flat (l.map obV))[i]? =some c→Rd w G c ((obsC l).getD i undef)
 | [],i,c,h=>by simp[flat]at h
 |x::l,i,c,h=>by
  rw[Z8Q,X7]at h;have e:obsC (x::l)=obC x++obsC l:=by simp[obsC]
  rw[e];by_cases hi:i<5
  ·match i,hi with
   |0,_=>simp[obV,V.cells]at h;subst h;exact .int _ _
   |1,_=>simp[obV,V.cells]at h;subst h;exact .int _ _
   |2,_=>simp[obV,V.cells]at h;subst h;exact .int _ _
   |3,_=>simp[obV,V.cells]at h;subst h;exact .bool _
   |4,_=>simp[obV,V.cells]at h;subst h;exact .int _ _
  ·have h2:(flat (l.map obV))[i-5]? =some c:=by
    rw[Z8F (by simp[obV,V.cells];omega)]at h;simpa[obV,V.cells]using h
   have:=JF (w:=w) (G:=G) l (i-5) c h2
   have hg:(obC x++obsC l).getD i undef=(obsC l).getD (i-5) undef:=by
    simp only[Zbu];rw[Z8F (by simp[obC];omega)];simp[obC]
   rw[hg];exact this
theorem Z3y(l:List Ob): ∀x∈l.map obV,V.fits 5 x:=by
 intro x hx;obtain⟨o,_,rfl⟩:=Z8S.1 hx;exact⟨rfl,fun c hc=>by simp[obV,V.cells]at hc;rcases hc with rfl|rfl|rfl|rfl|rfl<;>rfl⟩
theorem Z2Q{w:World}{G:Nat→Prop}{B:Nat}{e:TypeId}{v:Value}{l:List Ob}(h:w.ownsRow B e 5 v l.length (obsC l))(hG: ∀c,B≤c→c<w.heap.size→G c):Rd w G (.sl (l.map obV)) v:=by
 have hlen:(obsC l).length=l.length*5:=h.1;rcases h.2 with ⟨rfl,h0⟩ | ⟨g,cap,cur,rfl,hb,hg,hnc,hcm,_⟩
 ·have:l= []:=Z9O.1 h0;subst this;exact .nil _ _ (by unfold maxLen;omega)
 ·have:=Rd.sl (w:=w) (G:=G) (l.map obV) g 0 cap 5 (fun i=>(obsC l).getD i undef) (by simpa using hnc) hcm (hG g hb (Za hg)) (Z3y l) (fun i hi=>by
    have hi':i< (obsC l).length:=by rw[hlen];simpa using hi
    rw[Z97,h.cellAt i (by rw[←hlen];exact hi')];simp[hi']) (fun i c hc=>JF l i c hc)
  simpa using this
theorem Z4d{ws:List Int}{shs:List (Int×Int)}{old:Bool}{K:Nat→World→Prop}{n:Int}{xs:List Ob}{W:World}(h0:shs= [])(h:(n=0∧endS ws shs old K xs W)∨((n=2∨n=3)∧xs= []∧Zp ws shs old=([],n))):Zp ws shs old=(xs,n):=by
 subst h0;rcases h with ⟨rfl,t,_,h⟩ | ⟨_,rfl,h⟩
 ·rw[h,if_neg (by simp)]
 ·exact h
theorem Z0n:RQ:=by
 intro ws hl hu;refine⟨by kernel_rfl,fun w G vs hG hsz hvs=> ?_⟩;have r0:=hvs 0 _ rfl;obtain⟨⟨l⟩⟩:=vs
 ·simp at hsz
 rename_i v0 l;cases l with
 |cons _ _=>simp at hsz
 |nil=>
  simp at r0;obtain⟨g,o,cap,hw,hsv,hg1,hg2⟩:=S2 r0 hG hl hu (w.heap.size+1);have hk:=JN (w:=w) (shs:= []) (old:=false) (bt:=none) (K:=fun t _=>t=0) hw hsv ⟨hg1,by omega,by omega⟩ (.inl rfl) (by simp) (by simp) Z3b rfl (fun t A B row h _ _=>h) (fun bl base t A B _ _ h _=>h)
  obtain⟨sa,sn,sc,rfl⟩: ∃a n c,v0= .slice a n c:=by
   rcases hsv with rfl| ⟨_,a,c,rfl⟩
   ·exact⟨_,_,_,rfl⟩
   ·exact⟨_,_,_,rfl⟩
  have HK:=Z8r hk;clear hk hw hsv r0 hvs;go_enter Try.func108,Try.ntmps108
  go_wp2_with (go_at_call 120;refine HK.out.mono ?_;rintro e w1 ⟨v,n,xs,rfl,hgr,hrow,hE⟩;have HR:=Z8r (And.intro hgr (And.intro hrow hE));clear hgr hrow hE)
  obtain⟨hgr,hrow,hE⟩:=HR.out;have hW:=Z4d rfl hE;refine Z8K (v:= .tuple #[v,.int .i64 n]) (by simp[results,Try.results108,go_sem]) rfl ⟨_,rfl,(Z8E _ w).grown hgr (Z8v _) (fun j e=>by cases e),?_⟩;rw[hW];refine .tup _ _ rfl ?_;intro i y hy
  match i,hy with
  |0,hy=>cases hy;exact Z2Q hrow fun c h1 h2=> .inr ⟨by omega,h2⟩
  |1,hy=>cases hy;exact .int _ _
theorem KpW.cell{bl base:Nat}{A B:World}(h:KpW bl base A B){k i:Nat}{c:Value}(hc:A.cell? ⟨k,i,none⟩=some c)(hk:k<base)(hn:k≠bl):B.cell? ⟨k,i,none⟩=some c:=by
 have hc2:=hc;unfold World.cell? at hc;cases hh:A.heap[k]? with
 |none=>simp[hh]at hc
 |some ob=>
  have hob:ob.isCells=true:=by
   rw[hh]at hc;cases ob<;>simp_all [Obj.isCells]
  rw[←hc2];exact Z9v (a:=⟨k,i,none⟩) ((h.same k ob hh hob hn (.inl hk)).trans hh.symm)
theorem KOld.grown{shs:List (Int×Int)}{bt bs t n:Nat}{v:Value}{A B:World}{row:Option Nat}(h:KOld shs bt bs v t A)(hg:A.grownBy B row)(hbt:bt<n)(hbs:bs<n)(hv:shs≠ []→ ∀g o cap,v= .slice (some ⟨g,o,none⟩) shs.length cap→g<n)(hr: ∀r,row=some r→n≤r):KOld shs bt bs v t B:=by
 obtain⟨h1,h2,h3⟩:=h;exact⟨(hg.block _ (Za h1) (fun e=>by have:=hr _ e.symm;omega)).trans h1,h2.grown hg (fun e=>by have:=hr _ e.symm;omega) (fun hn g o cap e e2=>by have:=hr _ e2.symm;have:=hv hn _ _ _ e;omega),h3⟩
theorem KOld.kp{shs:List (Int×Int)}{bt bs t n bl base:Nat}{v:Value}{A B:World}(h:KOld shs bt bs v t A)(hg:KpW bl base A B)(hbt:bt<n)(hbs:bs<n)(hv:shs≠ []→ ∀g o cap,v= .slice (some ⟨g,o,none⟩) shs.length cap→g<n)(h1:n≤bl)(h2:n≤base):KOld shs bt bs v t B:=by
 obtain⟨k1,⟨k2,k3⟩,k4⟩:=h;refine⟨hg.same _ _ k1 rfl (by omega) (.inl (by omega)),⟨hg.same _ _ k2 rfl (by omega) (.inl (by omega)),?_⟩,k4⟩;rcases k3 with ⟨g,o,cap,rfl,a1,a2,a3,a4⟩ |h
 ·refine .inl ⟨g,o,cap,rfl,a1,a2,Z8z a3 hg.size,fun i x hx=> ?_⟩;have:=hv (fun e=>by rw[e]at hx;simp at hx) _ _ _ rfl;exact⟨hg.cell (a4 i x hx).1 (by omega) (by omega),hg.cell (a4 i x hx).2 (by omega) (by omega)⟩
 ·exact .inr h
theorem Words.below2{w W:World}{ws:List Int}{g o cap:Nat}(h:Words w ws g o cap)(hs:ws≠ []→g<w.heap.size)(hb:Below w.heap.size w W):Words W ws g o cap:=
 ⟨fun i x hx=>by rw[hb.cell (p:=⟨g,o+i,none⟩) (hs (fun e=>by rw[e]at hx;simp at hx))];exact h.at_ i x hx,h.le,h.cap,h.len,h.u64⟩
theorem Q4:Wk:=by
 intro ws shs hl hsl hu hsh;refine⟨by kernel_rfl,fun w G vs hG hsz hvs=> ?_⟩;have r0:=hvs 0 _ rfl;have r1:=hvs 1 _ rfl;obtain⟨⟨l⟩⟩:=vs
 ·simp at hsz
 rename_i v0 l;cases l with
 |nil=>simp at hsz
 |cons v1 l=>
 cases l with
 |cons _ _=>simp at hsz
 |nil=>
  simp at r0 r1;obtain⟨g,o,cap,hw,hsv,hg1,hg2⟩:=S2 r0 hG hl hu (w.heap.size+3);have hv1:=qq r1 hG
  obtain⟨sa,sn,sc,rfl⟩: ∃a n c,v0= .slice a n c:=by
   rcases hsv with rfl| ⟨_,a,c,rfl⟩
   ·exact⟨_,_,_,rfl⟩
   ·exact⟨_,_,_,rfl⟩
  obtain⟨ta,tc,rfl⟩: ∃a c,v1= .slice a shs.length c:=by
   rcases hv1 with ⟨_,_,_,rfl,_⟩ | ⟨a,c,rfl,rfl⟩
   ·exact⟨_,_,rfl⟩
   ·exact⟨_,_,rfl⟩
  have b0:((w.alloc (.cells #[.slice ta shs.length tc] 159)).alloc (.cells #[.int .i64 0] 3)).heap[w.heap.size]? =some (.cells #[.slice ta shs.length tc] 159 (0,0)):=(Z8t _ _ _ (by simp)).trans (Z8C w _)
  have b1:((w.alloc (.cells #[.slice ta shs.length tc] 159)).alloc (.cells #[.int .i64 0] 3)).heap[w.heap.size+1]? =some (.cells #[.int .i64 0] 3 (0,0)):=by
   have:=Z8C (w.alloc (.cells #[.slice ta shs.length tc] 159)) (.cells #[.int .i64 0] 3);simpa using this
  have hB1:Below w.heap.size w ((w.alloc (.cells #[.slice ta shs.length tc] 159)).alloc (.cells #[.int .i64 0] 3)):=((Z8E _ w).alloc (Z8v _) _).alloc (by simp) _;have hsz1:((w.alloc (.cells #[.slice ta shs.length tc] 159)).alloc (.cells #[.int .i64 0] 3)).heap.size=w.heap.size+2:=by simp
  have hgb:shs≠ []→ ∀g o cap,Value.slice ta shs.length tc= .slice (some ⟨g,o,none⟩) shs.length cap→g<w.heap.size:=by
   intro hn g o cap e;rcases hv1 with ⟨g1,o1,c1,e1,_,_,h4,_⟩ | ⟨_,_,_,h⟩
   ·rw[e]at e1;cases e1;exact h4
   ·exact absurd h hn
  have hk:Calls Try.prog 120 #[.slice sa sn sc,.func (.func 121) #[] #[.pointer (some ⟨w.heap.size+1,0,none⟩),.pointer (some ⟨w.heap.size,0,none⟩)]] ((w.alloc (.cells #[.slice ta shs.length tc] 159)).alloc (.cells #[.int .i64 0] 3))
    (jF ((w.alloc (.cells #[.slice ta shs.length tc] 159)).alloc (.cells #[.int .i64 0] 3)) ws shs true (some (w.heap.size+1)) (KOld shs (w.heap.size+1) w.heap.size (.slice ta shs.length tc))):=by
   generalize hW1:(w.alloc (.cells #[.slice ta shs.length tc] 159)).alloc (.cells #[.int .i64 0] 3)=W1 at*;have hgb1:shs≠ []→ ∀g o cap,Value.slice ta shs.length tc= .slice (some ⟨g,o,none⟩) shs.length cap→g<W1.heap.size:=fun hn g o cap e=>by have:=hgb hn g o cap e;omega
   refine JN (hw.below2 hg1 hB1) hsv ⟨fun h=>by have:=hg1 h;omega,by omega,by omega⟩ (.inr ⟨_,_,rfl⟩) (fun r e=>by cases e;omega) (fun e=>by cases e;omega) (Z3g hsl (by omega) (fun hn g o cap e=>by have:=hgb hn g o cap e;omega)) ⟨b1,⟨b0,?_⟩,by omega⟩ (fun t A B row h hg hr=>h.grown hg (n:=W1.heap.size) (by omega) (by omega) hgb1 hr) (fun bl base t A B h1 h2 h hk=>h.kp hk (n:=W1.heap.size) (by omega) (by omega) hgb1 h1 h2);rcases hv1 with ⟨g1,o1,c1,e1,a1,a2,a3,a4⟩ | ⟨a,c,e1,h⟩
   ·exact .inl ⟨g1,o1,c1,e1,a1,a2,by omega,fun i x hx=>⟨(hB1.cell (p:=⟨g1,o1+i*2,none⟩) a3).trans (a4 i x hx).1,(hB1.cell (p:=⟨g1,o1+i*2+1,none⟩) a3).trans (a4 i x hx).2⟩⟩
   ·exact .inr ⟨a,c,e1,h⟩
  have hrd: ∀w1 v n (xs:List Ob),(v= .slice none 0 0∧xs= []∨w1.ownsRow (w.heap.size+6) 49 5 v xs.length (obsC xs))→Zp ws shs true=(xs,n)→Rd w1 (fun b=>true=false∧G b∨w.heap.size≤b∧b<w1.heap.size) (.tup [.sl ((Zp ws shs true).1.map obV),vi (Zp ws shs true).2]) (.tuple #[v,.int .i64 n]):=by
   intro w1 v n xs hrow hW;rw[hW];refine .tup _ _ rfl ?_;intro i y hy
   match i,hy with
   |0,hy=>
    cases hy;rcases hrow with ⟨rfl,rfl⟩ |hrow
    ·exact .nil _ _ (by unfold maxLen;omega)
    ·exact Z2Q hrow fun c h1 h2=> .inr ⟨by omega,h2⟩
   |1,hy=>cases hy;exact .int _ _
  have hk2:Calls Try.prog 120 #[.slice sa sn sc,.func (.func 121) #[] #[.pointer (some ⟨w.heap.size+1,0,none⟩),.pointer (some ⟨w.heap.size,0,none⟩)]] ((w.alloc (.cells #[.slice ta shs.length tc] 159)).alloc (.cells #[.int .i64 0] 3)) fun e w1=>
    (∃(v:Value) (t:Nat),e= .returned (.tuple #[v,.int .i64 0])∧w1.cell? ⟨w.heap.size+1,0,none⟩=some (.int .i64 t)∧w1.cell? ⟨w.heap.size,0,none⟩=some (.slice ta shs.length tc)∧(t:Int) <shs.length∧Hid (Below w.heap.size w w1∧Rd w1 (fun b=>true=false∧G b∨w.heap.size≤b∧b<w1.heap.size) (.tup [.sl ((Zp ws shs true).1.map obV),vi (Zp ws shs true).2]) (.tuple #[.slice none 0 0,.int .i64 3])))∨
    (∃(v:Value) (t:Nat),e= .returned (.tuple #[v,.int .i64 0])∧w1.cell? ⟨w.heap.size+1,0,none⟩=some (.int .i64 t)∧w1.cell? ⟨w.heap.size,0,none⟩=some (.slice ta shs.length tc)∧ ¬(t:Int) <shs.length∧Hid (Below w.heap.size w w1∧Rd w1 (fun b=>true=false∧G b∨w.heap.size≤b∧b<w1.heap.size) (.tup [.sl ((Zp ws shs true).1.map obV),vi (Zp ws shs true).2]) (.tuple #[v,.int .i64 0])))∨
    (∃(v:Value) (n:Int),e= .returned (.tuple #[v,.int .i64 n])∧ ¬n=0∧Hid (Below w.heap.size w w1∧Rd w1 (fun b=>true=false∧G b∨w.heap.size≤b∧b<w1.heap.size) (.tup [.sl ((Zp ws shs true).1.map obV),vi (Zp ws shs true).2]) (.tuple #[.slice none 0 0,.int .i64 n]))):=by
   refine hk.mono ?_;rintro e w1 ⟨v,n,xs,rfl,hgr,hrow,hE⟩;rw[hsz1]at hrow;have hB:Below w.heap.size w w1:=hB1.trans ((Z8E _ _).grown hgr (by rw[hsz1];omega) (fun j e=>by cases e;omega));rcases hE with ⟨rfl,t,⟨hb,hs,ht⟩,hWk⟩ | ⟨hn,rfl,hWk⟩
   ·have q1:w1.cell? ⟨w.heap.size+1,0,none⟩=some (.int .i64 t):=by rw[Z8s _ _ _ _ _ _ hb];rfl
    have q2:w1.cell? ⟨w.heap.size,0,none⟩=some (.slice ta shs.length tc):=by rw[Z8s _ _ _ _ _ _ hs.box];rfl
    by_cases hlt:t<shs.length
    ·rw[if_pos hlt]at hWk;exact .inl ⟨v,t,rfl,q1,q2,by omega,Z8r ⟨hB,hrd w1 _ _ [] (.inl ⟨rfl,rfl⟩) hWk⟩⟩
    ·rw[if_neg hlt]at hWk;exact .inr (.inl ⟨v,t,rfl,q1,q2,by omega,Z8r ⟨hB,hrd w1 _ _ xs (.inr hrow) hWk⟩⟩)
   ·exact .inr (.inr ⟨v,n,rfl,by omega,Z8r ⟨hB,hrd w1 _ _ [] (.inl ⟨rfl,rfl⟩) hWk⟩⟩)
  have HK:=Z8r hk2;clear hw hsv r0 r1 hvs hv1 hg1 hg2 hk hk2 hB1 b0 b1 hgb hsz1 hrd;go_enter Try.func110,Try.ntmps110;have hmf: ∀(fn:Go.Fn) (first cap:Array Value) (w:World),(Instr.makeFunc fn first cap).run Try.prog w= .ok (.func fn first cap) w:=fun _ _ _ _=>rfl
  go_wp2_with (go_at_call 120;refine HK.out.mono ?_;rintro e w1 (⟨v,t,rfl,q1,q2,hlt,HF⟩ | ⟨v,t,rfl,q1,q2,hlt,HF⟩ | ⟨v,n,rfl,hn,HF⟩))
  ·refine Z8K (v:= .tuple #[.slice none 0 0,.int .i64 3]) (by simp[results,Try.results110,go_sem]) rfl ⟨_,rfl,HF.out.1,HF.out.2⟩
  ·refine Z8K (v:= .tuple #[v,.int .i64 0]) (by simp[results,Try.results110,go_sem]) rfl ⟨_,rfl,HF.out.1,HF.out.2⟩
  ·refine Z8K (v:= .tuple #[.slice none 0 0,.int .i64 n]) (by simp[results,Try.results110,go_sem]) rfl ⟨_,rfl,HF.out.1,HF.out.2⟩
end Vm
namespace Vm
open Go Go.Proofs Go.RowKit
set_option maxHeartbeats 1000000
set_option maxRecDepth 100000
end Vm
end
section

end
section
namespace Vm
open Go Go.Proofs
set_option maxRecDepth 100000
set_option maxHeartbeats 1000000
theorem Z34{h:Hp}(hh:h.ok):VC Try.prog 33 false [hpV h] (.bool (ZD h)):=by
 rw[←(RN h).1];exact Z0V Z0n Q4 hh
theorem Z36{h:Hp}(hh:h.ok):VC Try.prog 26 false [hpV h] (vi (Uh h)):=by
 rw[←Z0l h];exact LM Z0n Q4 hh
end Vm
end
section
namespace Vm
open Go Go.Proofs
set_option maxRecDepth 100000
def Wb(l:List Ob):List (Int×Int):=(l.filter fun o=>o.gone).map fun o=>(o.size,o.ptrs)
theorem yp{ws:List Int}{shs:List (Int×Int)}{old:Bool}: ∀(l:List Ob) (f a tk:Nat) (acc:List Ob),Tiles ws old a l→ws.length<f+a→0<f→shs.drop tk=Wb l→YN ws shs old f a tk acc=(acc++l,0)
 | [],f,a,tk,acc,ht,hf,h0,hs=>by
   obtain⟨f,rfl⟩: ∃f',f=f'+1:=⟨f-1,by omega⟩;have:ws.length≤a:=ht;have h2:shs.length≤tk:=List.drop_eq_nil_iff.1 hs;rw[YN,Z9x this];simp only;rw[if_neg (by omega),Z9t]
 |o::l,f,a,tk,acc,ht,hf,h0,hs=>by
  obtain⟨f,rfl⟩: ∃f',f=f'+1:=⟨f-1,by omega⟩;obtain⟨h1,h2,h3⟩:=ht;obtain⟨w,hw,hc⟩:=h2.word;have hsh:=Z4.1 h2.shape;have hfit:=h2.fits;have hsl:=h2.slots;rw[h1]at hw hfit hsl;simp only[Z8B]at hw hsl
  have hrec: ∀tk':Nat,shs.drop tk'=Wb l→YN ws shs old f (a+1+o.size.toNat) tk' (acc++ [o])=(acc++o::l,0):=fun tk' hs'=>by
   rw[yp l f _ tk' _ h3 (by omega) (by omega) hs'];simp
  have hobj: ∃tk',objR shs old a tk w=some (o,tk')∧shs.drop tk'=Wb l:=by
   unfold objR;cases hg:o.gone
   ·rw[hg]at hc;simp only[Z8U,Z9f]at hc;rw[if_neg (fun h=>hc.1 h.1 h.2),hc.2.1];refine⟨tk,?_,?_⟩
    ·simp only[Z9c];obtain⟨oa,os,op,og,ot⟩:=o;simp only at hg h1 hc⊢;rw[hg,h1,hc.2.2]
    ·rw[hs];simp[Wb,hg]
   ·rw[hg]at hc;simp only[Z9c]at hc;rw[if_pos ⟨hc.1,hc.2.1⟩];have hd:shs.drop tk=(o.size,o.ptrs)::Wb l:=by rw[hs];simp[Wb,hg]
    have hlt:tk<shs.length:=by
     have:=Z9U List.length hd;simp at this;omega
    rw[Z9q hlt]at hd;have e1:=(List.cons.inj hd).1;have e2:=(List.cons.inj hd).2;rw[Z8n hlt,e1];simp only[h2.shape,Z9c];refine⟨tk+1,?_,e2⟩;obtain⟨oa,os,op,og,ot⟩:=o;simp only at hg h1 hc⊢;rw[hg,h1,hc.2.2]
  obtain⟨tk',ho,hs'⟩:=hobj;rw[YN,hw];simp only;rw[ho];simp only;rw[if_neg (by omega),if_neg (by rw[hsl];simp)];exact hrec tk' hs'
theorem Ux{ws:List Int}{shs:List (Int×Int)}{old:Bool}{l:List Ob}(ht:Tiles ws old 0 l)(hs:shs=Wb l):Zp ws shs old=(l,0):=by
 unfold Zp;rw[yp l (ws.length+1) 0 0 [] ht (by omega) (by omega) (by simpa using hs),Z9d]
def Ry(h:Hp)(low l:List Ob):Prop:= ∀o∈l,o.gone=true→ ∃q,atR h 1 low o.target=some q∧q.size=o.size∧q.ptrs=o.ptrs
theorem VB{h:Hp}{ws:List Int}{low:List Ob}: ∀(l:List Ob) (f i:Nat) (acc:List (Int×Int)),Tiles ws true i l→ws.length<f+i→0<f→Ry h low l→Yn h ws low f i acc=some (acc++Wb l)
 | [],f,i,acc,ht,hf,h0,hg=>by
   obtain⟨f,rfl⟩: ∃f',f=f'+1:=⟨f-1,by omega⟩;have:ws.length≤i:=ht;rw[Yn,Z9x this];simp[Wb]
 |o::l,f,i,acc,ht,hf,h0,hg=>by
  obtain⟨f,rfl⟩: ∃f',f=f'+1:=⟨f-1,by omega⟩;obtain⟨h1,h2,h3⟩:=ht;obtain⟨w,hw,hc⟩:=h2.word;have hsh:=Z4.1 h2.shape;have hfit:=h2.fits;rw[h1]at hw hfit;simp only[Z8B]at hw;have hg':Ry h low l:=fun q hq=>hg q (Z9h _ hq);rw[Yn,hw];simp only;cases hgo:o.gone
  ·rw[hgo]at hc;simp only[Z8U,Z9f,true_implies]at hc;rw[if_neg hc.1,hc.2.1];simp only[Z9c];rw[VB l f _ acc h3 (by omega) (by omega) hg'];simp[Wb,hgo]
  ·rw[hgo]at hc;simp only[Z9c,true_and]at hc;rw[if_pos hc.1];obtain⟨q,hq,e1,e2⟩:=hg o (.head _) hgo;rw[←hc.2,hq];simp only;rw[e1,e2,VB l f _ _ h3 (by omega) (by omega) hg'];simp[Wb,hgo]
theorem zA{h:Hp}{p:Pts}(h1:Tiles h.low false 0 p.low)(h2:Tiles h.high false 0 p.high)(h3:Tiles h.old true 0 p.old)(h4:Tiles h.far true 0 p.far)(g3:Ry h p.low p.old)(g4:Ry h p.low p.far):Y6 h=some p:=by
 have ng: ∀ {ws:List Int} {a:Nat} {l:List Ob},Tiles ws false a l→Wb l= []:=fun {ws a l} ht=>by
  unfold Wb;rw[ZaZ,Zb9];intro o ho hg;obtain⟨w,_,hc⟩:=(ht.stands o ho).1.word;rw[if_pos hg]at hc;cases hc.1
 unfold Y6;rw[Ux h1 (ng h1).symm,Ux h2 (ng h2).symm];unfold Yx;simp only[ne_eq,Zbc,or_self,Z9f];rw[VB p.old _ 0 [] h3 (by omega) (by omega) g3,VB p.far _ 0 [] h4 (by omega) (by omega) g4];simp only[Z9d,Z91];rw[Ux h3 rfl,Ux h4 rfl];simp
theorem yw{h:Hp}{p:Pts}(hn:numR h=true)(hp:Y6 h=some p)(hr:Ue h p=true):ZD h=true:=by
 unfold ZD;rw[hn,hp];simpa using hr
theorem Z2M{h:Hp}{k:Int}{l:List Ob}{o:Ob}(ho:o∈l)(hd: ∀q∈l,ZE h k q.at_=ZE h k o.at_→q=o):atR h k l (ZE h k o.at_)=some o:=by
 unfold atR
 induction l with
 |nil=>simp at ho
 |cons x l ih=>
  rw[Zbt];by_cases hx:ZE h k x.at_=ZE h k o.at_
  ·rw[hd x (.head _) hx];simp
  ·have:(ZE h k x.at_==ZE h k o.at_)=false:=by simpa using hx
   rw[this];rcases Z8V.1 ho with rfl|ho
   ·exact absurd rfl hx
   ·exact ih ho fun q hq=>hd q (Z9h _ hq)
theorem T2{h:Hp}{k:Int}{l:List Ob}{a:Int}:(atR h k l a).isSome=true↔ ∃o∈l,ZE h k o.at_=a:=by
 unfold atR;rw[List.find?_isSome];simp
end Vm
end
section
namespace Vm
open Go Go.Proofs
set_option maxRecDepth 100000
structure Tld (h:Hp) (p:Pts):Prop where
 lay:Z8 (layH h)=true
 tiles: ∀k:Int,1≤k∧k≤4→Tiles (Z5 h k) (decide (2<k)) 0 (p.at k)
def Gos(h:Hp)(p:Pts)(w one two:Int):Prop:=w=0∨ ∃k o,(k=one∨k=two)∧o∈p.at k∧w=refR (layH h) k o.at_
def X0(h:Hp)(p:Pts)(k:Int)(i:Nat)(w:Int):Prop:=if 2<k then Gos h p w 3 4 else if k=1∧h.scan≤i then Gos h p w 1 2∨Gos h p w 3 4 else Gos h p w 1 2
section
variable {h:Hp} {p:Pts}
theorem Tld.ob(t:Tld h p){k:Int}(hk:1≤k∧k≤4){o:Ob}(ho:o∈p.at k): ∃a n m:Nat,o.at_=a∧o.size=n∧o.ptrs=m∧a+(n+1)≤(Z5 h k).length∧n≤255∧m≤n:=by
 have hs:=((t.tiles k hk).stands o ho).1;have h1:=Z4.1 hs.shape;obtain⟨a,ha⟩:=Z8H hs.nat;obtain⟨n,hn⟩:=Z8H h1.1;obtain⟨m,hm⟩:=Z8H h1.2.2.1;have:=hs.fits;exact⟨a,n,m,ha,hn,hm,by omega,by omega,by omega⟩
theorem Tld.start(t:Tld h p){k:Int}(hk:1≤k∧k≤4){o:Ob}(ho:o∈p.at k):ZE h k o.at_=fstL (layH h) k+o.at_:=by
 obtain⟨a,n,m,ha,_,_,hl,_⟩:=t.ob hk ho;unfold ZE;rw[U7 t.lay hk (by rw[Ym hk];omega)]
theorem Tld.same_at(t:Tld h p){k:Int}(hk:1≤k∧k≤4){o q:Ob}(ho:o∈p.at k)(hq:q∈p.at k)(e:q.at_=o.at_):q=o:=by
 rcases(t.tiles k hk).apart q hq o ho with h1|h1|h1
 ·exact h1
 ·have:=Z4.1 ((t.tiles k hk).stands q hq).1.shape;omega
 ·have:=Z4.1 ((t.tiles k hk).stands o ho).1.shape;omega
theorem Tld.find(t:Tld h p){k:Int}(hk:1≤k∧k≤4){o:Ob}(ho:o∈p.at k):atR h k (p.at k) (fstL (layH h) k+o.at_)=some o:=by
 rw[←t.start hk ho];refine Z2M ho fun q hq e=>t.same_at hk ho hq ?_;rw[t.start hk ho,t.start hk hq]at e;omega
theorem Tld.inj(t:Tld h p){k j:Int}(hk:1≤k∧k≤4)(hj:1≤j∧j≤4){o q:Ob}(ho:o∈p.at k)(hq:q∈p.at j)(e:refR (layH h) k o.at_=refR (layH h) j q.at_):k=j∧o=q:=by
 obtain⟨a,n,m,ha,_,_,hl,_⟩:=t.ob hk ho;obtain⟨b,n',m',hb,_,_,hl',_⟩:=t.ob hj hq;obtain⟨e1,e2⟩:=Z2n t.lay hk hj (by rw[Ym hk];omega) (by rw[Ym hj];omega) e;subst e1;exact⟨rfl,t.same_at hk hq ho e2⟩
theorem Tld.adr(t:Tld h p){k:Int}(hk:1≤k∧k≤4){o:Ob}(ho:o∈p.at k):adr (refR (layH h) k o.at_)=(fstL (layH h) k+o.at_,0):=by
 obtain⟨a,n,m,ha,_⟩:=t.ob hk ho;exact Xi t.lay (by omega)
theorem Tld.at_iff(t:Tld h p){k:Int}(hk:1≤k∧k≤4){w:Int}(h0:(Vm.adr w).2=0):(atR h k (p.at k) (Vm.adr w).1).isSome=true↔ ∃o∈p.at k,w=refR (layH h) k o.at_:=by
 rw[T2];constructor
 ·rintro⟨o,ho,e⟩;rw[t.start hk ho]at e;exact⟨o,ho,ja h0 e.symm⟩
 ·rintro⟨o,ho,rfl⟩;exact⟨o,ho,by rw[t.adr hk ho,t.start hk ho]⟩
theorem Tld.goes_iff(t:Tld h p){i j:Int}(hi:1≤i∧i≤4)(hj:1≤j∧j≤4){w:Int}:YP h p w i j=true↔Gos h p w i j:=by
 unfold YP Gos;by_cases h0:w=0
 ·simp[h0]
 by_cases h1:(Vm.adr w).2=0
 ·simp only[h0,h1,Zbe,ZaL,Zaf,Zaz,Z8J,Zbz,t.at_iff hi h1,t.at_iff hj h1];constructor
  ·rintro(⟨o,ho,e⟩ | ⟨o,ho,e⟩)
   ·exact⟨i,o,.inl rfl,ho,e⟩
   ·exact⟨j,o,.inr rfl,ho,e⟩
  ·rintro⟨k,o,rfl|rfl,ho,e⟩
   ·exact .inl ⟨o,ho,e⟩
   ·exact .inr ⟨o,ho,e⟩
 ·simp only[h0,h1,ZaL,ZbJ,Bool.or_self,Z8U,Zbz,false_iff];rintro⟨k,o,hk,ho,rfl⟩;have hk4:1≤k∧k≤4:=by rcases hk with rfl|rfl<;>assumption
  exact h1 (by rw[t.adr hk4 ho])
theorem Td: ∀ {l:List Int} {ptrs:Int} {i:Nat},ZL l true ptrs i=true→ ∀w∈l,w=0
 | [],_,_,_,w,hw=>by simp at hw
 |y::l,ptrs,i,hs,w,hw=>by
  simp only[ZL,Z8u]at hs;rcases Z8V.1 hw with rfl|hw
  ·have h1:=hs.1;simp at h1;exact h1.1
  ·exact Td hs.2 w hw
theorem Tld.slot(t:Tld h p){k:Int}(hk:1≤k∧k≤4){o:Ob}(ho:o∈p.at k){j:Nat}(hj:(j:Int) <o.size): ∃w,(Z5 h k)[o.at_.toNat+1+j]? =some w∧(o.gone=true→w=0):=by
 obtain⟨a,n,m,ha,hn,hm,hl,_⟩:=t.ob hk ho;have hlt:a+1+j< (Z5 h k).length:=by omega
 refine⟨(Z5 h k)[a+1+j],by rw[ha,Z8B];exact Z8n hlt,fun hg=> ?_⟩;have hs:=((t.tiles k hk).stands o ho).1.slots;rw[hg]at hs;refine Td hs _ ?_;rw[ha,hn,Z8B,Z8B];refine Z8x (i:=j) ?_;rw[Z9b (by omega),Z8N];exact Z8n hlt
end
structure Body (h:Hp) (p:Pts):Prop extends Tld h p where
 gone: ∀k:Int,3≤k∧k≤4→ ∀o∈p.at k,o.gone=true→ ∃q∈p.low,o.target=fstL (layH h) 1+q.at_∧q.size=o.size∧q.ptrs=o.ptrs
 ptr: ∀k:Int,1≤k∧k≤4→ ∀o∈p.at k,o.gone=false→ ∀j:Nat,(j:Int) <o.ptrs→ ∀w,(Z5 h k)[o.at_.toNat+1+j]? =some w→X0 h p k (o.at_.toNat+1+j) w
 room:(h.low.length:Int)+h.high.length+Yi p≤h.cap
structure Rt (h:Hp) (p:Pts):Prop extends Body h p where
 nroots:h.roots.length≤16
 scan0:0≤h.scan
 scanL:h.scan≤h.low.length
 cyc:h.cycle=true→h.scan<h.low.length
 rest:h.cycle=false→h.scan=h.low.length∧h.old= []∧h.far= []
 once:h.cycle=true→ ∀o∈p.low,Sh p (fstL (layH h) 1+o.at_)=1
 roots: ∀w∈h.roots,Gos h p w 1 2
section
variable {h:Hp} {p:Pts}
theorem Kn(t:Tld h p){k:Int}{i:Nat}{w:Int}(hw:(Z5 h k)[i]? =some w):UR h p k i=true↔X0 h p k i w:=by
 unfold UR X0;simp only[hw,Z91];split
 ·exact t.goes_iff (by omega) (by omega)
 split
 ·rw[Z8J,t.goes_iff (by omega) (by omega),t.goes_iff (by omega) (by omega)]
 ·exact t.goes_iff (by omega) (by omega)
theorem qD(k:Int)(i:Nat):X0 h p k i 0:=by
 unfold X0;split
 ·exact .inl rfl
 split
 ·exact .inl (.inl rfl)
 ·exact .inl rfl
theorem ze(t:Tld h p){k:Int}(hk:1≤k∧k≤4):Wm h p k=true↔ ∀o∈p.at k,o.gone=false→ ∀j:Nat,(j:Int) <o.ptrs→ ∀w,(Z5 h k)[o.at_.toNat+1+j]? =some w→X0 h p k (o.at_.toNat+1+j) w:=by
 unfold Wm yk;simp only[Z8A,Z9T];constructor
 ·intro hp o ho _ j hj w hw;exact(Kn t hw).1 (hp o ho j (by omega))
 ·intro hp o ho j hj;obtain⟨a,n,m,ha,hn,hm,hl,_⟩:=t.ob hk ho;obtain⟨w,hw,hz⟩:=t.slot hk ho (j:=j) (by omega);refine(Kn t hw).2 ?_;cases hg:o.gone
  ·exact hp o ho hg j (by omega) w hw
  ·rw[hz hg];exact qD _ _
theorem RightH.tld(r:RightH h p):Tld h p:=⟨r.lay,fun k hk=>r.tiles hk⟩
theorem RightH.rt(r:RightH h p):Rt h p:=by
 have t:=r.tld;have hn:=r.num;have ho:=r.ok;unfold numR at hn;unfold Ue at ho;simp only[Z8u,Z8L]at hn ho;obtain⟨⟨⟨⟨n1,n2⟩,n3⟩,n4⟩,n5⟩:=hn;obtain⟨⟨⟨⟨⟨⟨o1,o2⟩,o3⟩,o4⟩,o5⟩,o6⟩,o7⟩:=ho
 have hptr: ∀k:Int,1≤k∧k≤4→Wm h p k=true:=fun k hk=>by
  have:k=1∨k=2∨k=3∨k=4:=by omega
  rcases this with rfl|rfl|rfl|rfl<;>assumption
 refine⟨⟨t,fun k hk o ho hg=> ?_,fun k hk=>(ze t hk).1 (hptr k hk),o7⟩,n2,n3,n4,fun hc=> ?_,fun hc=> ?_,fun hc o ho=> ?_,fun w hw=> ?_⟩
 ·obtain⟨q,hq,e,e1,e2⟩:=r.gone_low hk ho hg;exact⟨q,hq,by rw[←e,t.start (k:=1) (by omega) hq],e1,e2⟩
 ·rw[hc]at n5;simpa using n5
 ·rw[hc]at n5;simp at n5;exact⟨n5.1.1,n5.1.2,n5.2⟩
 ·rw[hc]at o1;simp only[Zbk,Zaf,Z8A]at o1;have:=o1 o ho;unfold tgOk at this;rw[t.start (k:=1) (by omega) ho]at this;simpa using this
 ·exact(t.goes_iff (by omega) (by omega)).1 (Z8A.1 o2 w hw)
theorem Rt.parts(r:Rt h p):Y6 h=some p:=by
 have g: ∀k:Int,3≤k∧k≤4→Ry h p.low (p.at k):=fun k hk o ho hg=>by
  obtain⟨q,hq,e,e1,e2⟩:=r.gone k hk o ho hg;exact⟨q,by rw[e];exact r.toTld.find (k:=1) (by omega) hq,e1,e2⟩
 exact zA (r.tiles 1 (by omega)) (r.tiles 2 (by omega)) (r.tiles 3 (by omega)) (r.tiles 4 (by omega)) (g 3 (by omega)) (g 4 (by omega))
theorem Rt.right(r:Rt h p):ZD h=true:=by
 have t:=r.toTld;refine yw ?_ r.parts ?_
 ·unfold numR;simp only[Z8u,Z8L];refine⟨⟨⟨⟨r.lay,r.nroots⟩,r.scan0⟩,r.scanL⟩,?_⟩;cases hc:h.cycle
  ·obtain⟨e1,e2,e3⟩:=r.rest hc;simp[e1,e2,e3]
  ·simp[r.cyc hc]
 ·unfold Ue;simp only[Z8u,Z8L];have hp:=fun k hk=>(ze t hk).2 (r.ptr k hk);refine⟨⟨⟨⟨⟨⟨?_,?_⟩,hp 1 (by omega)⟩,hp 2 (by omega)⟩,hp 3 (by omega)⟩,hp 4 (by omega)⟩,r.room⟩
  ·cases hc:h.cycle
   ·rfl
   ·simp only[Zbk,Zaf,Z8A];intro o ho;unfold tgOk;rw[t.start (k:=1) (by omega) ho,Z8L];exact r.once hc o ho
  ·rw[Z8A];exact fun w hw=>(t.goes_iff (by omega) (by omega)).2 (r.roots w hw)
theorem Xb:ZD h=true↔ ∃p,Rt h p:=
 ⟨fun hr=>by obtain⟨p,r⟩:=jS hr;exact⟨p,r.rt⟩,fun⟨p,r⟩=>r.right⟩
theorem Rt.uniq{q:Pts}(r:Rt h p)(s:Rt h q):q=p:=by
 have:=r.parts;rw[s.parts]at this;exact Zc3 this
theorem Rt.wait(r:Rt h p):Uh h=Yi p:=by
 unfold Uh;rw[if_pos r.right,r.parts];rfl
end
end Vm
end
section
namespace Vm
open Go Go.Proofs
set_option maxRecDepth 100000
def szL(l:List Ob):Nat:=(l.map fun o=>1+o.size.toNat).sum
theorem Tiles.sum{ws:List Int}{old:Bool}: ∀ {a:Nat} {l:List Ob},Tiles ws old a l→a≤ws.length→a+szL l=ws.length
 |a,[],h,ha=>by have:ws.length≤a:=h;simp[szL];omega
 |a,o::l,h,ha=>by
  have hs:=Z4.1 h.2.1.shape;have hf:=h.2.1.fits;rw[h.1]at hf;have:=Tiles.sum h.2.2 (by omega);simp[szL]at this⊢;omega
theorem Tiles.last{ws:List Int}{old:Bool}{l:List Ob}(h:Tiles ws old ws.length l):l= []:=by
 cases l with
 |nil=>rfl
 |cons o l=>
  have hs:=Z4.1 h.2.1.shape;have hf:=h.2.1.fits;rw[h.1]at hf;omega
theorem Tiles.det{ws ws':List Int}{old:Bool}: ∀ {a:Nat} {l l':List Ob},Tiles ws old a l→Tiles ws' old a l'→(∀i,i<ws.length→ws'[i]? =ws[i]?)→ws.length≤ws'.length→
  (∀o∈l,∀q∈l',o.gone=true→q.gone=true→o.target=q.target→o.size=q.size∧o.ptrs=q.ptrs)→a≤ws.length→ ∃r,l'=l++r∧Tiles ws' old ws.length r
 |a,[],l',h,h',_,_,_,ha=>by
  have:ws.length≤a:=h;have:a=ws.length:=by omega
  subst this;exact⟨l',rfl,h'⟩
 |a,o::l,[],h,h',_,hl,_,ha=>by
  have hs:=Z4.1 h.2.1.shape;have hf:=h.2.1.fits;have e:=h.1;have:ws'.length≤a:=h';omega
 |a,o::l,q::l',h,h',hw,hl,hg,ha=>by
  obtain⟨h1,h2,h3⟩:=h;obtain⟨k1,k2,k3⟩:=h';have hs:=Z4.1 h2.shape;have hf:=h2.fits;obtain⟨w,hw1,hc⟩:=h2.word;obtain⟨u,hu1,hd⟩:=k2.word;rw[h1]at hw1 hf;rw[k1]at hu1;simp only[Z8B]at hw1 hu1;rw[hw a (by omega),hw1]at hu1;cases hu1
  have e:o=q:=by
   obtain⟨oa,os,op,og,ot⟩:=o;obtain⟨qa,qs,qp,qg,qt⟩:=q;simp only at*;subst h1 k1;cases og<;>cases qg<;>simp at hc hd
   ·rw[hc.2.1]at hd;simp at hd;simp[hc.2.2,hd]
   ·exact absurd hd.2.1 (hc.1 hd.1)
   ·exact absurd hc.2.1 (hd.1 hc.1)
   ·have:=hg _ (.head _) _ (.head _) rfl rfl (by rw[hc.2.2,hd.2.2]);simp at this;simp[hc.2.2,hd.2.2,this]
  subst e;obtain⟨r,e1,e2⟩:=Tiles.det h3 k3 hw hl (fun x hx y hy=>hg x (.tail _ hx) y (.tail _ hy)) (by omega);exact⟨r,by rw[e1];rfl,e2⟩
theorem Tiles.uniq{ws:List Int}{old:Bool}{l l':List Ob}(h:Tiles ws old 0 l)(h':Tiles ws old 0 l')(hg: ∀o∈l,∀q∈l',o.gone=true→q.gone=true→o.target=q.target→o.size=q.size∧o.ptrs=q.ptrs):l'=l:=by
 obtain⟨r,e1,e2⟩:=h.det h' (fun _ _=>rfl) (Z8v _) hg (Z9n _);rw[e1,e2.last,Z9t]
theorem Tiles.no_gone{ws:List Int}{a:Nat}{l:List Ob}(h:Tiles ws false a l): ∀o∈l,o.gone=false:=fun o ho=>by
 obtain⟨w,_,hc⟩:=(h.stands o ho).1.word;cases hg:o.gone
 ·rfl
 ·rw[if_pos hg]at hc;cases hc.1
theorem Tiles.uniq0{ws:List Int}{l l':List Ob}(h:Tiles ws false 0 l)(h':Tiles ws false 0 l'):l'=l:=h.uniq h' fun o ho q hq hg=>by rw[h.no_gone o ho]at hg;cases hg
def gnL(l:List Ob):Nat:=(l.map fun o=>if o.gone then 1+o.size.toNat else 0).sum
theorem Z6S(l:List Ob):wtL l+gnL l=szL l:=by
 induction l with
 |nil=>rfl
 |cons o l ih=>
  simp only[wtL,gnL,szL,Z8Q,ZbO,wtO]at ih⊢;cases o.gone<;>simp<;>omega
theorem Z27{L:List Ob}{f:Ob→Nat}(h: ∀o∈L,f o=0):(L.map f).sum=0:=by
 induction L with
 |nil=>rfl
 |cons x L ih=>rw[Z8Q,ZbO,h x (.head _),ih fun o ho=>h o (.tail _ ho)]
section
variable {h:Hp} {p:Pts}
theorem Tld.low_at(t:Tld h p){o:Ob}(ho:o∈p.low):0≤o.at_∧o.at_<h.low.length:=by
 obtain⟨a,n,m,ha,_,_,hl,_⟩:=t.ob (k:=1) (by omega) ho;simp only[YQ]at hl;omega
theorem Tiles.pairwise{ws:List Int}{old:Bool}: ∀ {a:Nat} {l:List Ob},Tiles ws old a l→l.Pairwise fun x y=>x.at_<y.at_
 |_,[],_=> .nil
 |a,o::l,h=>by
  have hs:=Z4.1 h.2.1.shape;refine .cons (fun y hy=> ?_) (Tiles.pairwise h.2.2);have:=(Tiles.stands h.2.2 y hy).2;rw[h.1];omega
theorem Tiles.nil{old:Bool}{l:List Ob}(h:Tiles [] old 0 l):l= []:=Tiles.last (ws:= []) h
theorem Gos.odd(t:Tld h p){w i j:Int}(hi:1≤i∧i≤4)(hj:1≤j∧j≤4)(hg:Gos h p w i j):w=0∨ ∃k,1≤k∧k≤4∧(k=i∨k=j)∧ ∃o∈p.at k,(adr w).2=0∧(adr w).1=fstL (layH h) k+o.at_∧o.at_<sizL (layH h) k∧0≤o.at_:=by
 rcases hg with rfl| ⟨k,o,hk,ho,rfl⟩
 ·exact .inl rfl
 ·have hk4:1≤k∧k≤4:=by rcases hk with rfl|rfl<;>assumption
  obtain⟨a,n,m,ha,_,_,hl,_⟩:=t.ob hk4 ho;exact .inr ⟨k,hk4.1,hk4.2,hk,o,ho,by rw[t.adr hk4 ho],by rw[t.adr hk4 ho],by rw[Ym hk4];omega,by omega⟩
end
end Vm
end
section
namespace Vm
open Go Go.Proofs
set_option maxRecDepth 100000
section
variable {h:Hp} {p:Pts}
theorem Body.fwd_here(r:Body h p){k:Int}(hk:1≤k∧k≤2){o:Ob}(ho:o∈p.at k):Vm.fwd h (refR (layH h) k o.at_)=(refR (layH h) k o.at_,h,0):=by
 obtain⟨a,n,m,ea,_,_,hl,_⟩:=r.toTld.ob (by omega) ho;exact Vm.fwd_here r.lay hk ⟨by omega,by omega⟩
theorem Body.fwd_gone(r:Body h p){k:Int}(hk:3≤k∧k≤4){o:Ob}(ho:o∈p.at k)(hg:o.gone=true):Vm.fwd h (refR (layH h) k o.at_)=(2*o.target+1,h,0):=by
 obtain⟨a,n,m,ea,_,_,hl,_⟩:=r.toTld.ob (by omega) ho;obtain⟨u,hu,hc⟩:=((r.tiles k (by omega)).stands o ho).1.word;rw[if_pos hg]at hc;rw[ea,Z8B]at hu;rw[ea,Vm.fwd_gone r.lay hk hu hc.2.1,ja hc.2.1 hc.2.2.symm]
theorem Body.fwd_wait(r:Body h p){k:Int}(hk:3≤k∧k≤4){o:Ob}(ho:o∈p.at k)(hg:o.gone=false){a n:Nat}(ea:o.at_=a)(en:o.size=n):
  Vm.fwd h (refR (layH h) k o.at_)=(refR (layH h) 1 h.low.length,movH h k a (n+1),0)∧((n+1:Nat):Int)≤YZ (layH h):=by
 obtain⟨a',n',m,ea',en',_,hl,_⟩:=r.toTld.ob (by omega) ho;have:a'=a:=by omega
 subst this;have:n'=n:=by omega
 subst this;obtain⟨u,hu,hc⟩:=((r.tiles k (by omega)).stands o ho).1.word;rw[if_neg (by simp[hg])]at hc;rw[ea,Z8B]at hu;have hrm:=r.room;have hw:=Z0k hk ho;unfold wtO at hw;rw[hg,en]at hw;simp at hw;have e:YZ (layH h)=h.cap-h.low.length-h.high.length:=by unfold YZ;rw[if_pos r.lay];rfl
 have hm:((n'+1:Nat):Int)≤YZ (layH h):=by omega
 rw[ea];exact⟨Vm.fwd_wait r.lay hk hu (hc.1 (ZaU (by omega))) (by rw[hc.2.1,en]) hl hm,hm⟩
end
theorem RG(h:Hp){k:Int}(hk:3≤k∧k≤4)(a n:Nat):(movH h k a n).low=h.low++((Z5 h k).take (a+n)).drop a∧(movH h k a n).high=h.high∧Z5 (movH h k a n) k=(zr (Z5 h k) a n).set a (refR (layH h) 1 h.low.length)∧Z5 (movH h k a n) (7-k)=Z5 h (7-k)∧
  (movH h k a n).roots=h.roots∧(movH h k a n).scan=h.scan∧(movH h k a n).cycle=h.cycle∧(movH h k a n).cap=h.cap∧(movH h k a n).base=h.base∧(movH h k a n).to=h.to:=by
 have:k=3∨k=4:=by omega
 rcases this with rfl|rfl<;>exact⟨rfl,rfl,rfl,rfl,rfl,rfl,rfl,rfl,rfl,rfl⟩
end Vm
end
section
namespace Vm
open Go Go.Proofs
set_option maxRecDepth 100000
set_option maxHeartbeats 1000000
theorem UX{h:Hp}{k j:Int}(hk:1≤k∧k≤4)(hj:1≤j∧j≤4)(l:List Int):Z5 (YE h k l) j=if j=k then l else Z5 h j:=by
 have h1:k=1∨k=2∨k=3∨k=4:=by omega
 have h2:j=1∨j=2∨j=3∨j=4:=by omega
 rcases h1 with rfl|rfl|rfl|rfl<;>rcases h2 with rfl|rfl|rfl|rfl<;>rfl
def ndAt(b:Bt)(i:Nat):Nd:=(b.g.nodes[i]?).getD default
def Z9(b:Bt)(i:Nat):Pl:=(b.here[i]?).getD ⟨0,0⟩
def Zz(b:Bt)(i:Nat):Pl:=(b.old[i]?).getD ⟨0,0⟩
def hdrN(n:Nd):Int:=(Xd ((n.ptrs.length:Int)+n.data.length) n.ptrs.length).1
def Xn(b:Bt)(p:Pl)(n:Nd)(tw:Int):List Int:=hdrN n::(Y8 b p p.at_.toNat n.ptrs tw++n.data)
def UC(b:Bt)(p:Pl)(n:Nd):List Int:=refB b.h p::List.replicate (sizN n-1) 0
def blk(b:Bt)(x:Rw)(k:Int)(i:Nat):List Int:=
 if(Z9 b i).part=k then Xn b (Z9 b i) (ndAt b i) (IntKind.i64.wrap (x.slack+i))
 else if(Zz b i).part=k then(if(Z9 b i).part=0 then Xn b (Zz b i) (ndAt b i) 0 else UC b (Z9 b i) (ndAt b i))
 else []
def cat(b:Bt)(x:Rw)(k:Int)(i:Nat):List Int:=(List.range i).flatMap (blk b x k)
theorem Yt(b:Bt)(x:Rw)(k:Int)(i:Nat):cat b x k (i+1)=cat b x k i++blk b x k i:=by
 unfold cat;rw[Zb6,ZaD];simp
theorem ZX(b:Bt)(p:Pl)(n:Nd)(tw:Int):(Xn b p n tw).length=sizN n:=by
 simp[Xn,Y8,sizN];omega
theorem XH(b:Bt)(p:Pl)(n:Nd):(UC b p n).length=sizN n:=by
 simp[UC,sizN];omega
structure Placed (b:Bt) (x:Rw):Prop where
 ok:BOk b
 here: ∀i,i<b.g.nodes.length→(Z9 b i=⟨0,0⟩∧ ∃k:Int,(k=3∨k=4)∧(Zz b i).part=k)∨(((Z9 b i).part=1∨(Z9 b i).part=2)∧(Z9 b i).at_=((cat b x (Z9 b i).part i).length:Nat))
 old: ∀i,i<b.g.nodes.length→Zz b i=⟨0,0⟩∨(((Zz b i).part=3∨(Zz b i).part=4)∧(Zz b i).at_=((cat b x (Zz b i).part i).length:Nat)∧(Z9 b i).part≠2)
 zero: ∀k:Int,1≤k∧k≤4→Z5 b.h k=List.replicate (cat b x k b.g.nodes.length).length 0
section
variable {b d:Bt} {x:Rw}
theorem S3(hl:Like b d)(p:Pl):refB d.h p=refB b.h p:=by
 unfold refB;rw[hl.lay]
theorem qO(hl:Like b d)(p:Pl)(to tw:Int):VE d p to tw=VE b p to tw:=by
 unfold VE;rw[hl.here,hl.old,hl.scan,S3 hl,S3 hl]
theorem Rq(hl:Like b d)(p:Pl)(n:Nd)(tw:Int):Xn d p n tw=Xn b p n tw:=by
 unfold Xn Y8;simp only[qO hl]
theorem KZ{p:Pl}{a m:Nat}{n:Nd}{tw:Int}{F:List Int}(hp:Z5 d.h p.part=F++List.replicate m 0)(ha:F.length=a)(hat:p.at_.toNat=a)(hm:sizN n≤m):layL d p a n tw=F++Xn d p n tw++List.replicate (m-sizN n) 0:=by
 unfold layL;simp only;rw[hp];have e1:(F++List.replicate m (0:Int)).take a=F:=by rw[←ha];simp
 have e2:(F++List.replicate m (0:Int)).drop (a+sizN n)=List.replicate (m-sizN n) 0:=by
  rw[←ha,ZbT,Za3 (by omega)];simp
 rw[e1,e2];simp[Xn,hdrN,hat]
theorem Z2U{F:List Int}{a m s:Nat}{w:Int}(ha:F.length=a)(hs:1≤s)(hm:s≤m):(F++List.replicate m (0:Int)).set a w=F++(w::List.replicate (s-1) 0)++List.replicate (m-s) 0:=by
 rw[←ha,Zc5 _ _ (Z8v _),Za7];obtain⟨m,rfl⟩: ∃m',m=m'+1:=⟨m-1,by omega⟩;rw[List.replicate_succ,Z9W,Z92];congr 1;simp;omega
theorem UI(b:Bt)(x:Rw)(k:Int){i j:Nat}(h:i≤j): ∃r,cat b x k j=cat b x k i++r:=by
 induction j with
 |zero=>exact⟨[],by have:i=0:=by omega
                    subst this;simp⟩
 |succ j ih=>
  by_cases hij:i=j+1
  ·subst hij;exact⟨[],by simp⟩
  ·obtain⟨r,hr⟩:=ih (by omega);exact⟨r++blk b x k j,by rw[Yt,hr,Z92]⟩
def Upto(b:Bt)(x:Rw)(i:Nat)(d:Bt):Prop:= ∀k:Int,1≤k∧k≤4→Z5 d.h k=cat b x k i++List.replicate ((cat b x k b.g.nodes.length).length- (cat b x k i).length) 0
theorem jQ(b:Bt)(x:Rw)(k:Int){i:Nat}(hi:i<b.g.nodes.length):(cat b x k i).length+(blk b x k i).length≤(cat b x k b.g.nodes.length).length:=by
 obtain⟨r,hr⟩:=UI b x k (show i+1≤b.g.nodes.length by omega);rw[hr,Yt];simp
theorem jy(hpl:Placed b x){i:Nat}(hi:i<b.g.nodes.length)(hl:Like b d)(hu:Upto b x i d):Upto b x (i+1) (qe x d i):=by
 have en:(d.g.nodes[i]?).getD default=ndAt b i:=by rw[hl.g];rfl
 have ep:(d.here[i]?).getD ⟨0,0⟩=Z9 b i:=by rw[hl.here];rfl
 have eo:(d.old[i]?).getD ⟨0,0⟩=Zz b i:=by rw[hl.old];rfl
 unfold qe;simp only[en,ep,eo];have hh:=hpl.here i hi;have ho:=hpl.old i hi;have hblk:=fun k=>jQ b x k hi;have hbk: ∀k,blk b x k i=if(Z9 b i).part=k then Xn b (Z9 b i) (ndAt b i) (IntKind.i64.wrap (x.slack+i))else if(Zz b i).part=k then(if(Z9 b i).part=0 then Xn b (Zz b i) (ndAt b i) 0 else UC b (Z9 b i) (ndAt b i))else []:=fun k=>rfl
 have l1:=ZX b (Z9 b i) (ndAt b i) (IntKind.i64.wrap (x.slack+i));have l2:=ZX b (Zz b i) (ndAt b i) 0;have l3:=XH b (Z9 b i) (ndAt b i);have e1:=Rq hl (Z9 b i) (ndAt b i) (IntKind.i64.wrap (x.slack+i));have e2:=Rq hl (Zz b i) (ndAt b i) 0;generalize Z9 b i=p at*;generalize Zz b i=o at*;generalize ndAt b i=n at*;have hs1:1≤sizN n:=by unfold sizN;omega
 rcases hh with ⟨rfl,ko,hko,hko2⟩ | ⟨hp,hat⟩
 ·
  have ho2:(o.part=3∨o.part=4)∧o.at_=((cat b x o.part i).length:Nat):=by
   rcases ho with rfl| ⟨h1,h2,_⟩
   ·simp at hko2;omega
   ·exact⟨h1,h2⟩
  have hA:Tv x d i n ⟨0,0⟩=d:=by unfold Tv;rw[if_neg (by simp)]
  have hO:TB d n ⟨0,0⟩ o=layB d o n 0:=by unfold TB;rw[if_pos ⟨by omega,rfl⟩]
  have hG: ∀q,Tb q ⟨0,0⟩ o=q:=fun q=>by unfold Tb;rw[if_neg (by simp)]
  rw[hA,hO,hG];intro k hk;have hbO:blk b x o.part i=Xn b o n 0:=by rw[hbk,if_neg (by show ¬(0:Int)=o.part;omega),if_pos rfl,if_pos rfl]
  have hro:=hblk o.part;rw[hbO,l2]at hro;unfold layB;simp only;rw[UX (by omega) hk];by_cases hko:k=o.part
  ·rw[if_pos hko,hko,KZ (hu o.part (by omega)) (by rw[ho2.2];simp) rfl (by omega),Yt,hbO,e2];congr 2;simp[l2];omega
  ·rw[if_neg hko,Yt,hbk k,if_neg (by show ¬(0:Int)=k;omega),if_neg (fun h=>hko h.symm),Z9t];exact hu k hk
 ·have hp0: ¬p.part=0:=by omega
  have hA:Tv x d i n p=layB d p n (IntKind.i64.wrap (x.slack+i)):=by unfold Tv;rw[if_pos (by omega)]
  have hO: ∀q,TB q n p o=q:=fun q=>by unfold TB;rw[if_neg (by simp[hp0])]
  rw[hA,hO];have hbP:blk b x p.part i=Xn b p n (IntKind.i64.wrap (x.slack+i)):=by rw[hbk,if_pos rfl]
  have hrp:=hblk p.part;rw[hbP,l1]at hrp
  have hlay: ∀k:Int,1≤k∧k≤4→Z5 (layB d p n (IntKind.i64.wrap (x.slack+i))).h k=if k=p.part then cat b x p.part (i+1)++List.replicate ((cat b x p.part b.g.nodes.length).length- (cat b x p.part (i+1)).length) 0 else Z5 d.h k:=by
   intro k hk;unfold layB;simp only;rw[UX (by omega) hk];by_cases hkp:k=p.part
   ·rw[if_pos hkp,if_pos hkp,KZ (hu p.part (by omega)) (by rw[hat];simp) rfl (by omega),Yt,hbP,e1];congr 2;simp[l1];omega
   ·rw[if_neg hkp,if_neg hkp]
  have hlk:refB (layB d p n (IntKind.i64.wrap (x.slack+i))).h p=refB b.h p:=by
   unfold refB
   have:layH (layB d p n (IntKind.i64.wrap (x.slack+i))).h=layH b.h:=by
    rw[←hl.lay];unfold layB;simp only;refine S7 ?_;rw[KZ (hu p.part (by omega)) (by rw[hat];simp) rfl (by omega),hu p.part (by omega),e1];simp[l1];omega
   rw[this]
  generalize layB d p n (IntKind.i64.wrap (x.slack+i))=q at*;rcases ho with rfl| ⟨ho1,ho2,ho3⟩
  ·have hG:Tb q p ⟨0,0⟩=q:=by unfold Tb;rw[if_neg (by simp)]
   rw[hG];intro k hk;rw[hlay k hk];by_cases hkp:k=p.part
   ·rw[if_pos hkp,hkp]
   ·rw[if_neg hkp,Yt,hbk k,if_neg (fun h=>hkp h.symm),if_neg (by show ¬(0:Int)=k;omega),Z9t];exact hu k hk
  ·have hG:Tb q p o= {q with h:=YE q.h o.part ((Z5 q.h o.part).set o.at_.toNat (refB q.h p))}:=by unfold Tb;rw[if_pos ⟨by omega,by omega⟩]
   rw[hG];have hbO:blk b x o.part i=UC b p n:=by rw[hbk,if_neg (by omega),if_pos rfl,if_neg hp0]
   have hro:=hblk o.part;rw[hbO,l3]at hro;intro k hk;simp only;rw[UX (by omega) hk,hlay o.part (by omega),if_neg (show ¬o.part=p.part by omega),hu o.part (by omega),hlk];by_cases hko:k=o.part
   ·rw[if_pos hko,hko,Z2U (by rw[ho2];simp) hs1 (by omega),Yt,hbO];unfold UC;congr 2;simp;omega
   ·rw[if_neg hko,hlay k hk];by_cases hkp:k=p.part
    ·rw[if_pos hkp,hkp]
    ·rw[if_neg hkp,Yt,hbk k,if_neg (fun h=>hkp h.symm),if_neg (fun h=>hko h.symm),Z9t];exact hu k hk
theorem Jl(hpl:Placed b x): ∀i,i≤b.g.nodes.length→Upto b x i (UN x b i)
 |0,_=>by
  intro k hk;rw[UN,hpl.zero k hk];simp[cat]
 |i+1,hi=>by
  rw[UN];exact jy hpl (by omega) (Jj hpl.ok i (by omega)) (Jl hpl i (by omega))
theorem RJ(hpl:Placed b x){k:Int}(hk:1≤k∧k≤4):Z5 (ZW x b) k=cat b x k b.g.nodes.length:=by
 have h:=Jl hpl b.g.nodes.length (Z8v _) k hk;rw[Za7,List.replicate_zero,Z9t]at h;rw[←h];rfl
end
end Vm
end
section
namespace Vm
open Go Go.Proofs
set_option maxRecDepth 100000
set_option maxHeartbeats 1000000
def LP(x:Rw)(c:Bool)(g:Gr)(i:Nat):Pl:=if clsK x i c=0 then⟨2,(stN x c g i).n2⟩else if clsK x i c=1 then⟨1,(stN x c g i).n1⟩else⟨0,0⟩
def oldF(x:Rw)(c:Bool)(g:Gr)(i:Nat):Pl:=if(decide (0<clsK x i c)&&c)=true then(if clsF x i then⟨4,(stN x c g i).n4⟩else⟨3,(stN x c g i).n3⟩)else⟨0,0⟩
theorem Z33{x:Rw}{c:Bool}{g:Gr}(hg: ∀n∈g.nodes,sizN n≤9): ∀j,j≤g.nodes.length→ ∀i,i<j→(stN x c g j).here[i]? =some (LP x c g i)∧(stN x c g j).old[i]? =some (oldF x c g i)
 |0,_,i,hi=>by omega
 |j+1,hj,i,hi=>by
  obtain⟨_,_,l1,l2⟩:=WT (x:=x) (cycle:=c) hg j (by omega);rw[stN];simp only[ZN];by_cases hij:i<j
  ·have:=Z33 (x:=x) (c:=c) hg j (by omega) i hij;rw[Z8G (by omega),Z8G (by omega)];exact this
  ·have:i=j:=by omega
   subst this;rw[Z8F (by omega),Z8F (by omega),l1,l2,Za7];exact⟨rfl,rfl⟩
def nk(s:St8)(k:Int):Nat:=if k=1 then s.n1 else if k=2 then s.n2 else if k=3 then s.n3 else s.n4
section
variable {x:Rw} {c:Bool}
theorem sz9(x:Rw): ∀n∈(mkG x.nodes x.roots).nodes,sizN n≤9:=fun n hn=>by
 obtain⟨_,_,hb3⟩:=UL x.nodes x.roots;have:=hb3 n hn;unfold sizN;omega
theorem XZ(x:Rw)(c:Bool):(Zw x c).g=mkG x.nodes x.roots:=rfl
theorem Re{i:Nat}(hi:i< (mkG x.nodes x.roots).nodes.length):Z9 (Zw x c) i=LP x c (mkG x.nodes x.roots) i:=by
 unfold Z9;show((stN x c (mkG x.nodes x.roots) (mkG x.nodes x.roots).nodes.length).here[i]?).getD _=_;rw[(Z33 (sz9 x) _ (Z8v _) i hi).1];rfl
theorem zl{i:Nat}(hi:i< (mkG x.nodes x.roots).nodes.length):Zz (Zw x c) i=oldF x c (mkG x.nodes x.roots) i:=by
 unfold Zz;show((stN x c (mkG x.nodes x.roots) (mkG x.nodes x.roots).nodes.length).old[i]?).getD _=_;rw[(Z33 (sz9 x) _ (Z8v _) i hi).2];rfl
theorem Qc: ∀i,i≤(mkG x.nodes x.roots).nodes.length→ ∀k:Int,1≤k∧k≤4→(cat (Zw x c) x k i).length=nk (stN x c (mkG x.nodes x.roots) i) k
 |0,_,k,hk=>by simp[cat,stN,nk]
 |i+1,hi,k,hk=>by
  have ih:=Qc i (by omega) k hk;rw[Yt,Z8W,ih];have hn:ndAt (Zw x c) i=((mkG x.nodes x.roots).nodes[i]?).getD default:=rfl;unfold blk;rw[Re (show i< (mkG x.nodes x.roots).nodes.length by omega),zl (show i< (mkG x.nodes x.roots).nodes.length by omega),hn,stN];generalize ((mkG x.nodes x.roots).nodes[i]?).getD default=n;have hk4:k=1∨k=2∨k=3∨k=4:=by omega
  unfold LP oldF;generalize stN x c (mkG x.nodes x.roots) i=s;rcases YB x i c with h0|h1| ⟨h2,rfl⟩
  ·rcases hk4 with rfl|rfl|rfl|rfl<;>simp[nk,ZN,h0,ZX]
  ·cases c<;>cases hf:clsF x i<;>rcases hk4 with rfl|rfl|rfl|rfl<;>simp[nk,ZN,h1,hf,ZX,XH]
  ·cases hf:clsF x i<;>rcases hk4 with rfl|rfl|rfl|rfl<;>simp[nk,ZN,h2,hf,ZX,XH]
theorem Tl(hx:x.ok):Placed (Zw x c) x:=by
 refine⟨(Uv hx c).1,fun i hi=> ?_,fun i hi=> ?_,fun k hk=> ?_⟩
 ·rw[XZ]at hi;rw[Re hi,zl hi];have hl:=fun k hk=>Qc (x:=x) (c:=c) i (by omega) k hk;unfold LP oldF;rcases YB x i c with h0|h1| ⟨h2,rfl⟩
  ·right;simp[h0,hl 2,nk]
  ·right;simp[h1,hl 1,nk]
  ·left;refine⟨by simp[h2],?_⟩;cases hf:clsF x i
   ·exact⟨3,.inl rfl,by simp[h2]⟩
   ·exact⟨4,.inr rfl,by simp[h2]⟩
 ·rw[XZ]at hi;rw[Re hi,zl hi];have hl:=fun k hk=>Qc (x:=x) (c:=c) i (by omega) k hk;unfold LP oldF;rcases YB x i c with h0|h1| ⟨h2,rfl⟩
  ·left;simp[h0]
  ·cases c
   ·left;simp
   ·right;cases hf:clsF x i
    ·simp[h1,hl 3,nk]
    ·simp[h1,hl 4,nk]
  ·right;cases hf:clsF x i
   ·simp[h2,hl 3,nk]
   ·simp[h2,hl 4,nk]
 ·rw[XZ,Qc _ (Z8v _) k hk];have hk4:k=1∨k=2∨k=3∨k=4:=by omega
  rcases hk4 with rfl|rfl|rfl|rfl<;>rfl
end
end Vm
end
section
namespace Vm
open Go Go.Proofs
set_option maxRecDepth 100000
set_option maxHeartbeats 1000000
theorem K6(h:Hp){k:Int}(hk:1≤k∧k≤4):sizL (layH h) k=(Z5 h k).length:=by
 have h1:k=1∨k=2∨k=3∨k=4:=by omega
 rcases h1 with rfl|rfl|rfl|rfl<;>rfl
theorem jD{s p:Int}(h:Zo s p=true):unpk (Xd s p).1=(s,p,0):=by
 have h2:=Z4.1 h;unfold Xd;rw[if_pos h];unfold unpk;have e1:2*(s+65536*p) / 2%65536=s:=by omega
 have e2:2*(s+65536*p) / 131072=p:=by omega
 simp only[e1,e2,h];rw[if_pos ⟨by omega,trivial⟩]
theorem Jy(h:Hp)(p:Pl):U1 (refB h p)=true:=by
 unfold refB U1;split
 ·rfl
 unfold YO;split
 ·rfl
 ·rename_i h1;unfold adr;simp only;rw[if_neg (by omega),if_neg (by omega)];simp
theorem yB(b:Bt)(p:Pl)(to tw:Int):U1 (VE b p to tw)=true:=by
 unfold VE;split
 ·rfl
 split
 ·exact Jy _ _
 split<;>exact Jy _ _
theorem Yq{gone:Bool}{ptrs:Int}: ∀ {l:List Int} {i:Nat},(∀(j:Nat) (w:Int),l[j]? =some w→(gone=true→w=0)∧(((i+j:Nat):Int) <ptrs→U1 w=true))→ZL l gone ptrs i=true
 | [],_,_=>rfl
 |w::l,i,h=>by
  obtain⟨h1,h2⟩:=h 0 w rfl
  have ih:ZL l gone ptrs (i+1)=true:=Yq fun j y hy=>by
   have:=h (j+1) y hy;rw[show i+1+j=i+(j+1)by omega];exact this
  rw[ZL,ih];cases gone
  ·by_cases hp:(i:Int) <ptrs
   ·simp[h2 (by simpa using hp)]
   ·simp[hp]
  ·rw[h1 rfl];simp[U1]
theorem Sf{b:Bt}{p:Pl}{n:Nd}{tw:Int}{F r:List Int}{old:Bool}(hat:p.at_=(F.length:Nat))(hn:sizN n≤9):Stands (F++Xn b p n tw++r) old ⟨p.at_,(n.ptrs.length:Int)+n.data.length,n.ptrs.length,false,0⟩:=by
 have hsh:Zo ((n.ptrs.length:Int)+n.data.length) n.ptrs.length=true:=by
  unfold sizN at hn;exact Z4.2 (by omega)
 have hw:(F++Xn b p n tw++r)[F.length]? =some (hdrN n):=by
  rw[Z92,Z8F (Z8v _),Za7];rfl
 have hu:=jD hsh;refine⟨by show 0≤p.at_;omega,hsh,?_,?_,hdrN n,by rw[hat];simpa using hw,?_⟩
 ·have:=ZX b p n tw;unfold sizN at this;simp only[Z8W,this,hat];omega
 ·simp only[hat,Z8B]
  have e:((F++Xn b p n tw++r).drop (F.length+1)).take ((n.ptrs.length:Int)+n.data.length).toNat=Y8 b p p.at_.toNat n.ptrs tw++n.data:=by
   have e1:((n.ptrs.length:Int)+n.data.length).toNat=(Y8 b p p.at_.toNat n.ptrs tw++n.data).length:=by simp[Y8];omega
   rw[e1,Z92,ZbT,Za3 (by omega),Zb7,Z9d];have e2:(Xn b p n tw++r).drop 1=(Y8 b p p.at_.toNat n.ptrs tw++n.data)++r:=rfl;rw[e2,ZaS]
  rw[e];refine Yq fun j w hw=>⟨by simp,fun hlt=> ?_⟩;have hlt':j<n.ptrs.length:=by simpa using hlt
  rw[Z8G (by simp[Y8];exact hlt')]at hw;simp only[Y8,Z8D,Z8p]at hw;obtain⟨q,_,rfl⟩:=hw;exact yB _ _ _ _
 ·simp only[Z8U,Z9f];exact⟨fun _=>zH (by unfold hdrN;rw[hu]),hu,trivial⟩
theorem KJ{b:Bt}{p o:Pl}{n:Nd}{F r:List Int}(hat:o.at_=(F.length:Nat))(hn:sizN n≤9)(ha:(adr (refB b.h p)).2=0):Stands (F++UC b p n++r) true ⟨o.at_,(n.ptrs.length:Int)+n.data.length,n.ptrs.length,true,(adr (refB b.h p)).1⟩:=by
 have hsh:Zo ((n.ptrs.length:Int)+n.data.length) n.ptrs.length=true:=by
  unfold sizN at hn;exact Z4.2 (by omega)
 have hw:(F++UC b p n++r)[F.length]? =some (refB b.h p):=by
  rw[Z92,Z8F (Z8v _),Za7];rfl
 refine⟨by show 0≤o.at_;omega,hsh,?_,?_,_,by rw[hat];simpa using hw,?_⟩
 ·have:=XH b p n;unfold sizN at this;simp only[Z8W,this,hat];omega
 ·simp only[hat,Z8B]
  have e:((F++UC b p n++r).drop (F.length+1)).take ((n.ptrs.length:Int)+n.data.length).toNat=List.replicate (sizN n-1) 0:=by
   have e1:((n.ptrs.length:Int)+n.data.length).toNat=(List.replicate (sizN n-1) (0:Int)).length:=by simp[sizN];omega
   rw[e1,Z92,ZbT,Za3 (by omega),Zb7,Z9d];have e2:(UC b p n++r).drop 1=List.replicate (sizN n-1) 0++r:=rfl;rw[e2,ZaS]
  rw[e];refine Yq fun j w hw=> ?_;have:=(ZbC.1 (Z8x hw)).2;subst this;exact⟨fun _=>rfl,fun _=>rfl⟩
 ·simp only[Z9c];exact⟨trivial,ha,trivial⟩
def obAt(b:Bt)(k:Int)(i:Nat):List Ob:=
 if(Z9 b i).part=k then [⟨(Z9 b i).at_,((ndAt b i).ptrs.length:Int)+(ndAt b i).data.length,(ndAt b i).ptrs.length,false,0⟩]
 else if(Zz b i).part=k then(if(Z9 b i).part=0 then [⟨(Zz b i).at_,((ndAt b i).ptrs.length:Int)+(ndAt b i).data.length,(ndAt b i).ptrs.length,false,0⟩]
  else [⟨(Zz b i).at_,((ndAt b i).ptrs.length:Int)+(ndAt b i).data.length,(ndAt b i).ptrs.length,true,(adr (refB b.h (Z9 b i))).1⟩])
 else []
def obs(b:Bt)(k:Int):List Ob:=(List.range b.g.nodes.length).flatMap (obAt b k)
section
variable {b:Bt} {x:Rw}
theorem Placed.nine(hpl:Placed b x)(h9: ∀n∈b.g.nodes,sizN n≤9){i:Nat}(hi:i<b.g.nodes.length):sizN (ndAt b i)≤9:=by
 unfold ndAt;rw[Z8n hi];exact h9 _ (Z8M hi)
theorem Placed.len(hpl:Placed b x){k:Int}(hk:1≤k∧k≤4):sizL (layH b.h) k=((cat b x k b.g.nodes.length).length:Nat):=by
 rw[K6 b.h hk,hpl.zero k hk];simp
theorem Placed.here_in(hpl:Placed b x){i:Nat}(hi:i<b.g.nodes.length)(hp:(Z9 b i).part≠0):((Z9 b i).part=1∨(Z9 b i).part=2)∧(Z9 b i).at_=((cat b x (Z9 b i).part i).length:Nat)∧(Z9 b i).at_+sizN (ndAt b i)≤sizL (layH b.h) (Z9 b i).part:=by
 rcases hpl.here i hi with ⟨h,_⟩ | ⟨h1,h2⟩
 ·rw[h]at hp;exact absurd rfl hp
 ·refine⟨h1,h2,?_⟩;have:=jQ b x (Z9 b i).part hi;rw[hpl.len (by omega),h2];have e:blk b x (Z9 b i).part i=Xn b (Z9 b i) (ndAt b i) (IntKind.i64.wrap (x.slack+i)):=by unfold blk;rw[if_pos rfl]
  rw[e,ZX]at this;omega
theorem Placed.old_in(hpl:Placed b x){i:Nat}(hi:i<b.g.nodes.length)(hp:(Zz b i).part≠0):((Zz b i).part=3∨(Zz b i).part=4)∧(Zz b i).at_=((cat b x (Zz b i).part i).length:Nat)∧(Z9 b i).part≠2∧(Zz b i).at_+sizN (ndAt b i)≤sizL (layH b.h) (Zz b i).part:=by
 rcases hpl.old i hi with h| ⟨h1,h2,h3⟩
 ·rw[h]at hp;exact absurd rfl hp
 ·refine⟨h1,h2,h3,?_⟩;have:=jQ b x (Zz b i).part hi;rw[hpl.len (by omega),h2]
  have hh:(Z9 b i).part=0∨(Z9 b i).part=1:=by
   by_cases h0:(Z9 b i).part=0
   ·exact .inl h0
   ·have:=(hpl.here_in hi h0).1;omega
  have e:(blk b x (Zz b i).part i).length=sizN (ndAt b i):=by
   unfold blk;rw[if_neg (by omega),if_pos rfl];split
   ·exact ZX _ _ _ _
   ·exact XH _ _ _
  rw[e]at this;omega
theorem Placed.ref_here(hpl:Placed b x)(hr:Z8 (layH b.h)=true){i:Nat}(hi:i<b.g.nodes.length)(hp:(Z9 b i).part≠0):refB b.h (Z9 b i)=refR (layH b.h) (Z9 b i).part (Z9 b i).at_:=by
 obtain⟨h1,h2,h3⟩:=hpl.here_in hi hp;have hs:1≤sizN (ndAt b i):=by unfold sizN;omega
 unfold refB;rw[if_neg hp,U7 hr (by omega) ⟨by omega,by omega⟩];have:=Zv hr (Z9 b i).part;unfold YO refR;rw[if_neg (by omega)]
theorem Placed.ref_old(hpl:Placed b x)(hr:Z8 (layH b.h)=true){i:Nat}(hi:i<b.g.nodes.length)(hp:(Zz b i).part≠0):refB b.h (Zz b i)=refR (layH b.h) (Zz b i).part (Zz b i).at_:=by
 obtain⟨h1,h2,_,h3⟩:=hpl.old_in hi hp;have hs:1≤sizN (ndAt b i):=by unfold sizN;omega
 unfold refB;rw[if_neg hp,U7 hr (by omega) ⟨by omega,by omega⟩];have:=Zv hr (Zz b i).part;unfold YO refR;rw[if_neg (by omega)]
theorem Jf(hpl:Placed b x)(hr:Z8 (layH b.h)=true)(h9: ∀n∈b.g.nodes,sizN n≤9){k:Int}(hk:1≤k∧k≤4): ∀(m i:Nat),i+m=b.g.nodes.length→Tiles (cat b x k b.g.nodes.length) (decide (2<k)) (cat b x k i).length ((List.range' i m).flatMap (obAt b k))
 |0,i,hi=>by
  have:i=b.g.nodes.length:=by omega
  subst this;exact Z8v _
 |m+1,i,hi=>by
  have ih:=Jf hpl hr h9 hk m (i+1) (by omega);have hlt:i<b.g.nodes.length:=by omega
  have h9i:=hpl.nine h9 hlt;obtain⟨r,hrr⟩:=UI b x k (show i+1≤b.g.nodes.length by omega);rw[List.range'_succ,ZbM];have hs:=Yt b x k i;by_cases h1:(Z9 b i).part=k
  ·have hb:blk b x k i=Xn b (Z9 b i) (ndAt b i) (IntKind.i64.wrap (x.slack+i)):=by unfold blk;rw[if_pos h1]
   have ho:obAt b k i= [⟨(Z9 b i).at_,((ndAt b i).ptrs.length:Int)+(ndAt b i).data.length,(ndAt b i).ptrs.length,false,0⟩]:=by unfold obAt;rw[if_pos h1]
   obtain⟨_,q2,_⟩:=hpl.here_in hlt (by omega);rw[h1]at q2;rw[ho];refine⟨q2,?_,?_⟩
   ·rw[hrr,hs,hb];exact Sf q2 h9i
   ·rw[hs,hb,Z8W,ZX]at ih;have:(((ndAt b i).ptrs.length:Int)+(ndAt b i).data.length).toNat=sizN (ndAt b i) -1:=by unfold sizN;omega
    simp only[this];rw[show(cat b x k i).length+1+(sizN (ndAt b i) -1)=(cat b x k i).length+sizN (ndAt b i)by unfold sizN;omega];exact ih
  by_cases h2:(Zz b i).part=k
  ·obtain⟨q1,q2,q3,q4⟩:=hpl.old_in hlt (by omega);have hk3:2<k:=by omega
   rw[h2]at q2
   have hlen:(cat b x k (i+1)).length=(cat b x k i).length+1+(((ndAt b i).ptrs.length:Int)+(ndAt b i).data.length).toNat:=by
    have e:(blk b x k i).length=sizN (ndAt b i):=by
     unfold blk;rw[if_neg h1,if_pos h2];split
     ·exact ZX _ _ _ _
     ·exact XH _ _ _
    rw[hs,Z8W,e];unfold sizN;omega
   rw[hlen]at ih;by_cases h3:(Z9 b i).part=0
   ·have hb:blk b x k i=Xn b (Zz b i) (ndAt b i) 0:=by unfold blk;rw[if_neg h1,if_pos h2,if_pos h3]
    have ho:obAt b k i= [⟨(Zz b i).at_,((ndAt b i).ptrs.length:Int)+(ndAt b i).data.length,(ndAt b i).ptrs.length,false,0⟩]:=by unfold obAt;rw[if_neg h1,if_pos h2,if_pos h3]
    rw[ho];refine⟨q2,?_,ih⟩;rw[hrr,hs,hb];exact Sf q2 h9i
   ·have hb:blk b x k i=UC b (Z9 b i) (ndAt b i):=by unfold blk;rw[if_neg h1,if_pos h2,if_neg h3]
    have ho:obAt b k i= [⟨(Zz b i).at_,((ndAt b i).ptrs.length:Int)+(ndAt b i).data.length,(ndAt b i).ptrs.length,true,(adr (refB b.h (Z9 b i))).1⟩]:=by unfold obAt;rw[if_neg h1,if_pos h2,if_neg h3]
    rw[ho];refine⟨q2,?_,ih⟩;rw[hrr,hs,hb,ZaU hk3];refine KJ q2 h9i ?_;obtain⟨u1,u2,_⟩:=hpl.here_in hlt h3;rw[hpl.ref_here hr hlt h3,Xi hr (by omega)]
  ·have hb:blk b x k i= []:=by unfold blk;rw[if_neg h1,if_neg h2]
   have ho:obAt b k i= []:=by unfold obAt;rw[if_neg h1,if_neg h2]
   rw[ho,Z9d];rw[hs,hb,Z9t]at ih;exact ih
theorem Z2d(hpl:Placed b x)(hr:Z8 (layH b.h)=true)(h9: ∀n∈b.g.nodes,sizN n≤9){k:Int}(hk:1≤k∧k≤4):Tiles (Z5 (ZW x b) k) (decide (2<k)) 0 (obs b k):=by
 rw[RJ hpl hk];have:=Jf hpl hr h9 hk b.g.nodes.length 0 (by omega);unfold obs;rw[List.range_eq_range'];exact this
theorem T9{k:Int}{o:Ob}:o∈obs b k↔ ∃i,i<b.g.nodes.length∧o∈obAt b k i:=by
 unfold obs;simp[ZaF]
end
end Vm
end
section
namespace Vm
open Go Go.Proofs
set_option maxRecDepth 100000
theorem Xq{gone:Bool}{ptrs:Int}: ∀ {l:List Int} {i:Nat},ZL l gone ptrs i=true→ ∀(j:Nat) (w:Int),l[j]? =some w→(gone=true→w=0)∧(((i+j:Nat):Int) <ptrs→U1 w=true)
 | [],_,_,j,w,hw=>by simp at hw
 |y::l,i,hs,j,w,hw=>by
  simp only[ZL,Z8u]at hs;cases j with
  |zero=>
   simp at hw;subst hw;obtain⟨⟨h1,h2⟩,_⟩:=hs;refine⟨fun hg=> ?_,fun hp=> ?_⟩
   ·rw[hg]at h1;simpa using h1
   ·simpa[show(i:Int) <ptrs by omega]using h2
  |succ j=>
   have:=Xq hs.2 j w (by simpa using hw);rw[show i+1+j=i+(j+1)by omega]at this;exact this
theorem Stands.congr{ws ws':List Int}{old:Bool}{o:Ob}(s:Stands ws old o)(hl:ws'.length=ws.length)(h0:ws'[o.at_.toNat]? =ws[o.at_.toNat]?)
  (h1: ∀j:Nat,(j:Int) <o.size→ws'[o.at_.toNat+1+j]? =ws[o.at_.toNat+1+j]? ∨(o.gone=false∧o.ptrs≤j)):Stands ws' old o:=by
 refine⟨s.nat,s.shape,by rw[hl];exact s.fits,Yq fun j w hw=> ?_,by rw[h0];exact s.word⟩
 have hlt:j<o.size.toNat:=by
  have:=(Z8o.1 hw).1;simp at this;omega
 rw[Z9b hlt,Z8N]at hw;rcases h1 j (by omega)with h1| ⟨hg,hp⟩
 ·rw[h1]at hw;refine Xq s.slots j w ?_;rw[Z9b hlt,Z8N];exact hw
 ·exact⟨fun h=>(by rw[hg]at h;cases h),fun h=>(by omega)⟩
theorem Tiles.congr{ws ws':List Int}{old:Bool}: ∀ {a:Nat} {l:List Ob},Tiles ws old a l→ws'.length=ws.length→(∀o∈l,Stands ws' old o)→Tiles ws' old a l
 |a,[],h,hl,_=>by show ws'.length≤a;rw[hl];exact h
 |a,o::l,h,hl,hs=>⟨h.1,hs o (.head _),Tiles.congr h.2.2 hl fun x hx=>hs x (.tail _ hx)⟩
section
variable {h g:Hp} {p:Pts}
theorem VN(hl:layH g=layH h){w i j:Int}:Gos g p w i j↔Gos h p w i j:=by
 unfold Gos;rw[hl]
theorem jj(hl:layH g=layH h)(hs:g.scan=h.scan){k:Int}{i:Nat}{w:Int}:X0 g p k i w↔X0 h p k i w:=by
 unfold X0;rw[VN hl,VN hl,hs]
theorem Tiles.place{ws:List Int}{old:Bool}: ∀ {a:Nat} {l:List Ob},Tiles ws old a l→ ∀ {i:Nat} {o:Ob},l[i]? =some o→o.at_=((a+szL (l.take i):Nat):Int)
 |_,[],_,i,o,hi=>by simp at hi
 |a,x::l,ht,0,o,hi=>by simp at hi;subst hi;rw[ht.1];simp[szL]
 |a,x::l,ht,i+1,o,hi=>by
  have:=ht.2.2.place (i:=i) (o:=o) (by simpa using hi);rw[this];simp[szL];omega
theorem Z26{l:List Ob}{i:Nat}{o:Ob}(hi:l[i]? =some o):szL (l.take (i+1))=szL (l.take i)+(1+o.size.toNat):=by
 unfold szL;rw[Z9H,hi,Z9Q,List.sum_append];simp
end
end Vm
end
section
namespace Vm
open Go Go.Proofs
set_option maxRecDepth 100000
theorem Z5P{ws:List Int}{a:Nat}: ∀ {n j:Nat},j<n→a+n≤ws.length→(zr ws a n)[a+j]? =some 0
 |0,_,h,_=>by omega
 |n+1,j,h,hl=>by
  rw[zr];by_cases e:j=n
  ·subst e;rw[Z9u (by rw[yg];omega)]
  ·rw[Z96 (by omega)];exact Z5P (by omega) (by omega)
theorem Stands.app{ws r:List Int}{old:Bool}{o:Ob}(s:Stands ws old o):Stands (ws++r) old o:=by
 have hs:=Z4.1 s.shape;have hf:=s.fits;have hn:=s.nat;have e0:(ws++r)[o.at_.toNat]? =ws[o.at_.toNat]? :=Z8G (by omega);refine⟨s.nat,s.shape,by simp;omega,Yq fun j w hw=> ?_,by rw[e0];exact s.word⟩
 have hlt:j<o.size.toNat:=by
  have:=(Z8o.1 hw).1;simp at this;omega
 rw[Z9b hlt,Z8N,Z8G (by omega)]at hw;refine Xq s.slots j w ?_;rw[Z9b hlt,Z8N];exact hw
theorem Tiles.append{ws r:List Int}{old:Bool}: ∀ {a:Nat} {l l':List Ob},Tiles ws old a l→a≤ws.length→Tiles (ws++r) old ws.length l'→Tiles (ws++r) old a (l++l')
 |a,[],l',h,ha,h'=>by
  have:ws.length≤a:=h;have:a=ws.length:=by omega
  subst this;exact h'
 |a,o::l,l',h,ha,h'=>by
  have hs:=Z4.1 h.2.1.shape;have hf:=h.2.1.fits;have e:=h.1;exact⟨h.1,h.2.1.app,Tiles.append h.2.2 (by omega) h'⟩
theorem Tiles.map{ws ws':List Int}{old:Bool}{f:Ob→Ob}(hf: ∀o,(f o).at_=o.at_∧(f o).size=o.size)(hl:ws'.length=ws.length): ∀ {a:Nat} {l:List Ob},Tiles ws old a l→(∀o∈l,Stands ws' old (f o))→Tiles ws' old a (l.map f)
 |a,[],h,_=>by show ws'.length≤a;rw[hl];exact h
 |a,o::l,h,hs=>⟨by rw[(hf o).1];exact h.1,hs o (.head _),by rw[(hf o).2];exact Tiles.map hf hl h.2.2 fun x hx=>hs x (.tail _ hx)⟩
def goOb(a t:Int)(q:Ob):Ob:=if q.at_=a then {q with gone:=true,target:=t}else q
theorem XD(a t:Int)(q:Ob):(goOb a t q).at_=q.at_∧(goOb a t q).size=q.size∧(goOb a t q).ptrs=q.ptrs:=by
 unfold goOb;split<;>exact⟨rfl,rfl,rfl⟩
theorem WH{a t:Int}{q:Ob}(h:q.at_≠a):goOb a t q=q:=if_neg h
theorem WM{a t:Int}{q:Ob}(h:q.at_=a):goOb a t q= {q with gone:=true,target:=t}:=if_pos h
def Pts.mv(p:Pts)(k:Int)(o:Ob)(L:Nat)(t:Int):Pts:=⟨p.low++ [⟨L,o.size,o.ptrs,false,0⟩],p.high,if k=3 then p.old.map (goOb o.at_ t)else p.old,if k=3 then p.far else p.far.map (goOb o.at_ t)⟩
section
variable {h:Hp} {p:Pts}
theorem Z2e{k:Int}(hk:3≤k∧k≤4)(o:Ob)(L:Nat)(t:Int):(p.mv k o L t).at 1=p.low++ [⟨L,o.size,o.ptrs,false,0⟩]∧(p.mv k o L t).at 2=p.high∧(p.mv k o L t).at k=(p.at k).map (goOb o.at_ t)∧(p.mv k o L t).at (7-k)=p.at (7-k):=by
 have:k=3∨k=4:=by omega
 rcases this with rfl|rfl<;>exact⟨rfl,rfl,rfl,rfl⟩
theorem Z4v{k:Int}(hk:3≤k∧k≤4){o:Ob}{L:Nat}{t:Int}{j:Int}(hj:1≤j∧j≤4){q:Ob}(hq:q∈p.at j): ∃q'∈(p.mv k o L t).at j,q'.at_=q.at_∧q'.size=q.size∧q'.ptrs=q.ptrs∧(q'.gone=false→q'=q)∧(j<3→q'=q):=by
 obtain⟨e1,e2,e3,e4⟩:=Z2e (p:=p) hk o L t;by_cases j1:j=1
 ·subst j1;exact⟨q,by rw[e1];exact Z9A _ hq,rfl,rfl,rfl,fun _=>rfl,fun _=>rfl⟩
 by_cases j2:j=2
 ·subst j2;exact⟨q,by rw[e2];exact hq,rfl,rfl,rfl,fun _=>rfl,fun _=>rfl⟩
 by_cases jk:j=k
 ·subst jk;refine⟨goOb o.at_ t q,by rw[e3];exact ZaB hq,(XD _ _ _).1,(XD _ _ _).2.1,(XD _ _ _).2.2,fun hg=> ?_,fun h=>by omega⟩;by_cases e:q.at_=o.at_
  ·rw[WM e]at hg;cases hg
  ·exact WH e
 ·have:j=7-k:=by omega
  subst this;exact⟨q,by rw[e4];exact hq,rfl,rfl,rfl,fun _=>rfl,fun h=>by omega⟩
theorem Z4J{g:Hp}{k:Int}(hk:3≤k∧k≤4){o:Ob}{L:Nat}{t:Int}(hr: ∀j b,refR (layH g) j b=refR (layH h) j b){w i j:Int}(hi:1≤i∧i≤4)(hj:1≤j∧j≤4)(hg:Gos h p w i j):Gos g (p.mv k o L t) w i j:=by
 rcases hg with rfl| ⟨m,q,hm,hq,rfl⟩
 ·exact .inl rfl
 ·obtain⟨q',hq',e,_⟩:=Z4v (p:=p) hk (o:=o) (L:=L) (t:=t) (j:=m) (by rcases hm with rfl|rfl<;>assumption) hq;exact .inr ⟨m,q',hm,hq',by rw[hr,e]⟩
theorem Z5Y{l:List Ob}{o:Ob}{t:Int}(hn:l.Pairwise fun x y=>x.at_<y.at_)(ho:o∈l)(hg:o.gone=false):wtL (l.map (goOb o.at_ t))+(1+o.size.toNat)=wtL l:=by
 induction l with
 |nil=>simp at ho
 |cons x l ih=>
  rw[ZbE]at hn;simp only[wtL,Z8Q,ZbO]at ih⊢;rcases Z8V.1 ho with rfl|ho
  ·have:l.map (goOb o.at_ t)=l:=by
    conv=>rhs;rw[←List.map_id l]
    refine ZaA fun y hy=>WH ?_;have:=hn.1 y hy;omega
   rw[this,WM rfl];simp[wtO,hg];omega
  ·have:=hn.1 o ho;have ih:=ih hn.2 ho;rw[WH (by omega)];omega
theorem Body.move(r:Body h p)(hsc:h.scan≤h.low.length){k:Int}(hk:3≤k∧k≤4){o:Ob}(ho:o∈p.at k)(hg:o.gone=false){a n:Nat}(ea:o.at_=a)(en:o.size=n):
  Body (movH h k a (n+1)) (p.mv k o h.low.length (fstL (layH h) 1+h.low.length)):=by
 obtain⟨a',n',m,ea',en',em,hal,hn5,hmn⟩:=r.toTld.ob (k:=k) (by omega) ho;have:a'=a:=by omega
 subst this;have:n'=n:=by omega
 subst this;obtain⟨_,hm⟩:=r.fwd_wait hk ho hg ea en;obtain⟨m1,m2,m3,m4,m5,m6,m7,m8,m9,m10⟩:=RG h hk a' (n'+1);have mlay:=QC hk (g:=h) hal;have mr:=qo r.lay hk hal hm;have hr:=Z0s hk hal;have hw: ∀ {j:Int} {b:Nat},3≤j∧j≤4→(j≠k∨b<a'∨a'+(n'+1)≤b)→(Z5 (movH h k a' (n'+1)) j)[b]? =(Z5 h j)[b]? :=fun hj hb=>K8 hk (by omega) hj hb;have hlen: ∀ {j:Int},3≤j∧j≤4→(Z5 (movH h k a' (n'+1)) j).length=(Z5 h j).length:=fun hj=>QF hk hj;have hfst:fstL (layH (movH h k a' (n'+1))) 1=fstL (layH h) 1:=by rw[mlay];rfl
 have hws: ∀i,i<n'+1→(((Z5 h k).take (a'+(n'+1))).drop a')[i]? =(Z5 h k)[a'+i]? :=fun i hi=>by
  rw[Z8N,Z9b (by omega)]
 have hwl:(((Z5 h k).take (a'+(n'+1))).drop a').length=n'+1:=by simp;omega
 obtain⟨e1,e2,e3,e4⟩:=Z2e (p:=p) hk o h.low.length (fstL (layH h) 1+h.low.length);have hst:=((r.tiles k (by omega)).stands o ho).1;obtain⟨u,hu,hc⟩:=hst.word;rw[if_neg (by simp[hg])]at hc;rw[ea,Z8B]at hu;generalize hgm:movH h k a' (n'+1)=g at*;generalize hws':((Z5 h k).take (a'+(n'+1))).drop a'=ws at*
 have hap: ∀q∈p.at k,q.at_≠o.at_→ ∀i:Nat,(i:Int)≤q.size→q.at_.toNat+i<a'∨a'+(n'+1)≤q.at_.toNat+i:=by
  intro q hq hne i hi;obtain⟨b,l,_,eb,el,_⟩:=r.toTld.ob (k:=k) (by omega) hq;rcases(r.tiles k (by omega)).apart q hq o ho with e|e|e
  ·rw[e]at hne;exact absurd rfl hne
  ·left;omega
  ·right;omega
 have hsame: ∀q∈p.at k,q.at_≠o.at_→ ∀i:Nat,(i:Int)≤q.size→(Z5 g k)[q.at_.toNat+i]? =(Z5 h k)[q.at_.toNat+i]? :=fun q hq hne i hi=>hw hk (.inr (hap q hq hne i hi));have hother: ∀b,(Z5 g (7-k))[b]? =(Z5 h (7-k))[b]? :=fun b=>hw (by omega) (.inl (by omega))
 have hnew:Stands (h.low++ws) false ⟨h.low.length,o.size,o.ptrs,false,0⟩:=by
  refine⟨by simp,hst.shape,by simp;omega,Yq fun j w hj=>⟨by simp,fun hp=> ?_⟩,u,?_,?_⟩
  ·have hlt:j<n':=by
    have:=(Z8o.1 hj).1;simp[en]at this;omega
   simp only[en,Z8B]at hj;rw[Z9b hlt,Z8N,Z8F (by omega),show h.low.length+1+j-h.low.length=1+j by omega,hws _ (by omega)]at hj;refine(Xq hst.slots j w ?_).2 hp;rw[ea,en,Z8B,Z8B,Z9b hlt,Z8N,←hj,Z9i]
  ·simp only[Z8B];rw[Z8F (Z8v _),Za7,hws 0 (by omega),Za6,hu]
  ·simp only[Z8U,Z9f];exact⟨by simp,hc.2.1,trivial⟩
 have hpos:=Zv r.lay 1;refine⟨⟨mr,fun j hj=> ?_⟩,fun j hj q hq hqg=> ?_,fun j hj q hq hqg i hi w hwi=> ?_,?_⟩
 ·by_cases j1:j=1
  ·subst j1;rw[e1];simp only[YQ,m1];exact(r.tiles 1 (by omega)).append (Z9n _) ⟨rfl,hnew,by show(h.low++ws).length≤_;simp[en,hwl];omega⟩
  by_cases j2:j=2
  ·subst j2;rw[e2];simp only[Kt,m2];exact r.tiles 2 (by omega)
  by_cases jk:j=k
  ·subst jk;rw[e3];refine(r.tiles j (by omega)).map (fun q=>⟨(XD _ _ q).1,(XD _ _ q).2.1⟩) (hlen hk) fun q hq=> ?_;by_cases e:q.at_=o.at_
   ·have:q=o:=r.toTld.same_at (by omega) ho hq e;subst this;rw[WM rfl];refine⟨hst.nat,hst.shape,by rw[hlen hk];exact hst.fits,Yq fun i w hi=> ?_,refR (layH h) 1 h.low.length,?_,?_⟩
    ·have hlt:i<n':=by
      have:=(Z8o.1 hi).1;simp[en]at this;omega
     simp only[ea,en,Z8B]at hi;rw[Z9b hlt,Z8N,m3,Z96 (by omega),Z9i,Z5P (by omega) hal]at hi;cases hi;exact⟨fun _=>rfl,fun _=>rfl⟩
    ·simp only[ea,Z8B];rw[m3,Z9u (by rw[yg];omega)]
    ·simp only[Z9c];rw[Xi r.lay (by omega)];exact⟨ZaU (by omega),rfl,rfl⟩
   ·rw[WH e];refine((r.tiles j (by omega)).stands q hq).1.congr (hlen hk) (by simpa using hsame q hq e 0 (by have:=Z4.1 ((r.tiles j (by omega)).stands q hq).1.shape;omega)) fun i hi=> .inl ?_;rw[Z9i];exact hsame q hq e (1+i) (by omega)
  ·have:j=7-k:=by omega
   subst this;rw[e4,m4];exact r.tiles (7-k) (by omega)
 ·by_cases jk:j=k
  ·subst jk;rw[e3,Z8S]at hq;obtain⟨x,hx,rfl⟩:=hq;by_cases e:x.at_=o.at_
   ·have:x=o:=r.toTld.same_at (by omega) ho hx e;subst this;rw[WM rfl];exact⟨_,Zbi _ (.head _),by rw[hfst],rfl,rfl⟩
   ·rw[WH e]at hqg⊢;obtain⟨y,hy,y1,y2,y3⟩:=r.gone j hj x hx hqg;exact⟨y,Z9A _ hy,by rw[hfst];exact y1,y2,y3⟩
  ·have:j=7-k:=by omega
   subst this;rw[e4]at hq;obtain⟨y,hy,y1,y2,y3⟩:=r.gone _ hj q hq hqg;exact⟨y,Z9A _ hy,by rw[hfst];exact y1,y2,y3⟩
 ·have gos: ∀ {w i j:Int},1≤i∧i≤4→1≤j∧j≤4→Gos h p w i j→Gos g (p.mv k o h.low.length (fstL (layH h) 1+h.low.length)) w i j:=fun hi hj=>Z4J hk hr hi hj
  have pat: ∀ {j:Int} {i:Nat} {w:Int},X0 h p j i w→X0 g (p.mv k o h.low.length (fstL (layH h) 1+h.low.length)) j i w:=fun {j i w} hp=>by
   unfold X0 at hp⊢;rw[m6];by_cases c1:2<j
   ·rw[if_pos c1]at hp⊢;exact gos (by omega) (by omega) hp
   rw[if_neg c1]at hp⊢;by_cases c2:j=1∧h.scan≤i
   ·rw[if_pos c2]at hp⊢;exact hp.imp (gos (by omega) (by omega)) (gos (by omega) (by omega))
   ·rw[if_neg c2]at hp⊢;exact gos (by omega) (by omega) hp
  by_cases j1:j=1
  ·subst j1;rw[e1]at hq;rcases Z90.1 hq with hq|hq
   ·obtain⟨b,l,l',eb,el,el',hbl,_⟩:=r.toTld.ob (k:=1) (by omega) hq;simp only[YQ]at hbl hwi;rw[m1,Z8G (by omega)]at hwi;exact pat (r.ptr 1 (by omega) q hq hqg i hi w hwi)
   ·simp at hq;subst hq;simp only at hi hwi⊢;simp only[Z8B,YQ,m1]at hwi⊢;rw[Z8F (by omega),show h.low.length+1+i-h.low.length=1+i by omega,hws _ (by omega)]at hwi;have:=r.ptr k (by omega) o ho hg i hi w (by rw[ea,Z8B,Z9i];exact hwi);unfold X0 at this⊢;rw[if_pos (by omega)]at this;rw[if_neg (by omega),if_pos ⟨rfl,by rw[m6];omega⟩];exact .inr (gos (by omega) (by omega) this)
  by_cases j2:j=2
  ·subst j2;rw[e2]at hq;simp only[Kt,m2]at hwi;exact pat (r.ptr 2 (by omega) q hq hqg i hi w hwi)
  by_cases jk:j=k
  ·subst jk;rw[e3,Z8S]at hq;obtain⟨x,hx,rfl⟩:=hq;by_cases e:x.at_=o.at_
   ·rw[WM e]at hqg;cases hqg
   ·rw[WH e]at hqg hi hwi⊢;have hps:=(Z4.1 ((r.tiles j (by omega)).stands x hx).1.shape).2.2.2;rw[Z9i,hsame x hx e (1+i) (by omega),←Z9i]at hwi;exact pat (r.ptr j hj x hx hqg i hi w hwi)
  ·have:j=7-k:=by omega
   subst this;rw[e4]at hq;rw[m4]at hwi;exact pat (r.ptr _ hj q hq hqg i hi w hwi)
 ·have hrm:=r.room
  have hwt:Yi (p.mv k o h.low.length (fstL (layH h) 1+h.low.length))+(1+n')=Yi p:=by
   have h1:=(r.tiles k (by omega)).pairwise;have:=Z5Y (t:=fstL (layH h) 1+h.low.length) h1 ho hg;rw[en,Z8B]at this;unfold Yi;have hk2:k=3∨k=4:=by omega
   rcases hk2 with rfl|rfl
   ·simp only[Pts.at3]at this;simp only[Pts.mv,Z9c];omega
   ·simp only[Pts.at4]at this;simp only[Pts.mv,show ¬(4:Int)=3 by omega,Z9f];omega
  rw[m1,m2,m8];simp only[Z8W,hwl];omega
end
end Vm
end
section
namespace Vm
open Go Go.Proofs
set_option maxRecDepth 100000
def Once(h:Hp)(p:Pts):Prop:= ∀o∈p.low,Sh p (fstL (layH h) 1+o.at_)=1
section
variable {h g:Hp} {p q:Pts}
theorem Z75{l:List Ob}{o:Ob}{t b:Int}(hn:l.Pairwise fun x y=>x.at_<y.at_)(ho:o∈l)(hg:o.gone=false):tgL (l.map (goOb o.at_ t)) b=tgL l b+if t=b then 1 else 0:=by
 induction l with
 |nil=>simp at ho
 |cons x l ih=>
  rw[ZbE]at hn
  have e: ∀(y:Ob) (r:List Ob),tgL (y::r) b=(if y.gone=true∧y.target=b then 1 else 0)+tgL r b:=fun y r=>by
   unfold tgL;rw[ZaY];by_cases c:y.gone=true∧y.target=b
   ·rw[if_pos c,if_pos (by simp[c]),Z9o,Zbf]
   ·rw[if_neg c,if_neg (by simpa using c),Z97]
  rw[Z8Q,e,e];rcases Z8V.1 ho with rfl|ho
  ·have:l.map (goOb o.at_ t)=l:=by
    conv=>rhs;rw[←List.map_id l]
    refine ZaA fun y hy=>WH ?_;have:=hn.1 y hy;omega
   rw[this,WM rfl];simp[hg];omega
  ·have h1:=hn.1 o ho;rw[ih hn.2 ho,WH (by omega)];omega
theorem Z4f(r:Body h p){b:Int}(hb:h.low.length≤b):Sh p (fstL (layH h) 1+b)=0:=by
 have key: ∀k:Int,3≤k∧k≤4→tgL (p.at k) (fstL (layH h) 1+b)=0:=fun k hk=>by
  unfold tgL;rw[Z9O,Zb9];intro o ho hg;simp only[Z8u,Z8L]at hg;obtain⟨y,hy,e,_⟩:=r.gone k hk o ho hg.1;have:=r.toTld.low_at hy;omega
 have h3:=key 3 (by omega);have h4:=key 4 (by omega);simp only[Pts.at3,Pts.at4]at h3 h4;unfold Sh;omega
theorem Z31(r:Body h p){k:Int}(hk:3≤k∧k≤4){o:Ob}(ho:o∈p.at k)(hg:o.gone=false){L:Nat}{t b:Int}:Sh (p.mv k o L t) b=Sh p b+if t=b then 1 else 0:=by
 have h1:=Z75 (t:=t) (b:=b) (r.tiles k (by omega)).pairwise ho hg;unfold Sh;have hk2:k=3∨k=4:=by omega
 rcases hk2 with rfl|rfl
 ·simp only[Pts.at3]at h1;simp only[Pts.mv,Z9c];omega
 ·simp only[Pts.at4]at h1;simp only[Pts.mv,show ¬(4:Int)=3 by omega,Z9f];omega
structure Ext (h:Hp) (p:Pts) (g:Hp) (q:Pts):Prop where
 low: ∃ws,g.low=h.low++ws
 high:g.high=h.high
 base:g.base=h.base
 cap:g.cap=h.cap
 tos:g.to=h.to
 cycle:g.cycle=h.cycle
 scan:g.scan=h.scan
 roots:g.roots=h.roots
 oldL:g.old.length=h.old.length
 farL:g.far.length=h.far.length
 obsL: ∃r,q.low=p.low++r
 obsH:q.high=p.high
 obsO: ∀k:Int,3≤k∧k≤4→(q.at k).map (fun o=>(o.at_,o.size,o.ptrs))=(p.at k).map (fun o=>(o.at_,o.size,o.ptrs))
 gone: ∀k:Int,3≤k∧k≤4→ ∀(i:Nat) (o o':Ob),(p.at k)[i]? =some o→(q.at k)[i]? =some o'→(o.gone=true→o'=o)∧(o'.gone=false→o'=o∧ ∀j:Nat,(j:Int)≤o.size→(Z5 g k)[o.at_.toNat+j]? =(Z5 h k)[o.at_.toNat+j]?)
 room:(g.low.length:Int)+Yi q=h.low.length+Yi p
theorem Ext.refl(h:Hp)(p:Pts):Ext h p h p:=
 ⟨⟨[],by simp⟩,rfl,rfl,rfl,rfl,rfl,rfl,rfl,rfl,rfl,⟨[],by simp⟩,rfl,fun _ _=>rfl,fun k hk i o o' h1 h2=>by rw[h1]at h2;cases h2;exact⟨fun _=>rfl,fun _=>⟨rfl,fun _ _=>rfl⟩⟩,rfl⟩
theorem Ext.trans{f:Hp}{s:Pts}(a:Ext h p g q)(b:Ext g q f s):Ext h p f s:=by
 obtain⟨w1,e1⟩:=a.low;obtain⟨w2,e2⟩:=b.low;obtain⟨r1,f1⟩:=a.obsL;obtain⟨r2,f2⟩:=b.obsL;refine⟨⟨w1++w2,by rw[e2,e1,Z92]⟩,b.high.trans a.high,b.base.trans a.base,b.cap.trans a.cap,b.tos.trans a.tos,b.cycle.trans a.cycle,b.scan.trans a.scan,b.roots.trans a.roots,b.oldL.trans a.oldL,b.farL.trans a.farL,⟨r1++r2,by rw[f2,f1,Z92]⟩,b.obsH.trans a.obsH,fun k hk=>(b.obsO k hk).trans (a.obsO k hk),fun k hk i o o'' h1 h2=> ?_,b.room.trans a.room⟩;have hl:(q.at k).length=(p.at k).length:=by have:=Z9U List.length (a.obsO k hk);simpa using this
 have hi:=(Z8o.1 h1).1;have h3:(q.at k)[i]? =some ((q.at k)[i]'(by omega)):=Z8n _;generalize (q.at k)[i]'(by omega)=o' at h3;obtain⟨c1,c2⟩:=a.gone k hk i o o' h1 h3;obtain⟨d1,d2⟩:=b.gone k hk i o' o'' h3 h2;refine⟨fun hg=> ?_,fun hg=> ?_⟩
 ·have:=c1 hg;subst this;exact d1 hg
 ·obtain⟨k1,k2⟩:=d2 hg;subst k1;obtain⟨k3,k4⟩:=c2 hg;subst k3;exact⟨rfl,fun j hj=>(k2 j hj).trans (k4 j hj)⟩
theorem Ext.fst(e:Ext h p g q)(k a:Int)(hk:k=1∨k=3∨k=4∨k=2):refR (layH g) k a=refR (layH h) k a:=by
 unfold refR fstL layH;simp only[e.base,e.cap,e.tos,e.high,e.farL]
theorem Ext.mem(e:Ext h p g q){j:Int}(hj:1≤j∧j≤4){o:Ob}(ho:o∈p.at j): ∃o'∈q.at j,o'.at_=o.at_∧o'.size=o.size∧o'.ptrs=o.ptrs:=by
 have h4:j=1∨j=2∨j=3∨j=4:=by omega
 rcases h4 with rfl|rfl|h3
 ·obtain⟨r,hr⟩:=e.obsL;exact⟨o,by show o∈q.low;rw[hr];exact Z9A _ ho,rfl,rfl,rfl⟩
 ·exact⟨o,by show o∈q.high;rw[e.obsH];exact ho,rfl,rfl,rfl⟩
 ·have:=e.obsO j (by omega);have hm:(o.at_,o.size,o.ptrs)∈(q.at j).map (fun o=>(o.at_,o.size,o.ptrs)):=by rw[this];exact ZaB ho
  obtain⟨o',h1,h2⟩:=Z8S.1 hm;simp only[Z8w]at h2;exact⟨o',h1,h2⟩
theorem Ext.gos(e:Ext h p g q){w i j:Int}(hi:1≤i∧i≤4)(hj:1≤j∧j≤4)(hg:Gos h p w i j):Gos g q w i j:=by
 rcases hg with rfl| ⟨m,o,hm,ho,rfl⟩
 ·exact .inl rfl
 ·have hm4:1≤m∧m≤4:=by rcases hm with rfl|rfl<;>assumption
  obtain⟨o',ho',e1,_⟩:=e.mem hm4 ho;exact .inr ⟨m,o',hm,ho',by rw[e.fst _ _ (by omega),e1]⟩
theorem Body.ext(r:Body h p)(hsc:h.scan≤h.low.length){k:Int}(hk:3≤k∧k≤4){o:Ob}(ho:o∈p.at k)(hg:o.gone=false){a n:Nat}(ea:o.at_=a)(en:o.size=n):
  Ext h p (movH h k a (n+1)) (p.mv k o h.low.length (fstL (layH h) 1+h.low.length)):=by
 obtain⟨a',n',m,ea',en',em,hal,hn5,hmn⟩:=r.toTld.ob (k:=k) (by omega) ho;have:a'=a:=by omega
 subst this;have:n'=n:=by omega
 subst this;obtain⟨m1,m2,m3,m4,m5,m6,m7,m8,m9,m10⟩:=RG h hk a' (n'+1);obtain⟨e1,e2,e3,e4⟩:=Z2e (p:=p) hk o h.low.length (fstL (layH h) 1+h.low.length);have l3:(movH h k a' (n'+1)).old.length=h.old.length:=QF (j:=3) hk (by omega);have l4:(movH h k a' (n'+1)).far.length=h.far.length:=QF (j:=4) hk (by omega);refine⟨⟨_,m1⟩,m2,m9,m8,m10,m7,m6,m5,l3,l4,⟨_,e1⟩,e2,fun j hj=> ?_,fun j hj i x x' h1 h2=> ?_,?_⟩
 ·by_cases jk:j=k
  ·subst jk;rw[e3,List.map_map];refine ZaA fun x _=> ?_;obtain⟨g1,g2,g3⟩:=XD o.at_ (fstL (layH h) 1+h.low.length) x;simp only[Function.comp,g1,g2,g3]
  ·have:j=7-k:=by omega
   subst this;rw[e4]
 ·by_cases jk:j=k
  ·subst jk;rw[e3,Z8D,h1]at h2;simp at h2;subst h2;have hxm:=Z8x h1;by_cases e:x.at_=o.at_
   ·have:x=o:=r.toTld.same_at (by omega) ho hxm e;subst this;rw[WM rfl];exact⟨fun h=>(by rw[hg]at h;cases h),fun h=>(by cases h)⟩
   ·rw[WH e];refine⟨fun _=>rfl,fun _=>⟨rfl,fun i hi=>K8 hk (by omega) hj (.inr ?_)⟩⟩;obtain⟨b,l,_,eb,el,_⟩:=r.toTld.ob (k:=j) (by omega) hxm;rcases(r.tiles j (by omega)).apart x hxm o ho with e'|e'|e'
    ·rw[e']at e;exact absurd rfl e
    ·left;omega
    ·right;omega
  ·have:j=7-k:=by omega
   subst this;rw[e4,h1]at h2;cases h2;exact⟨fun _=>rfl,fun _=>⟨rfl,fun i _=>by rw[m4]⟩⟩
 ·have h1:=(r.tiles k (by omega)).pairwise;have hw:=Z5Y (t:=fstL (layH h) 1+h.low.length) h1 ho hg;rw[en,Z8B]at hw;have hlow:=Z2v hk hal;unfold Yi;have hk2:k=3∨k=4:=by omega
  rcases hk2 with rfl|rfl
  ·simp only[Pts.at3]at hw;simp only[Pts.mv,Z9c];omega
  ·simp only[Pts.at4]at hw;simp only[Pts.mv,show ¬(4:Int)=3 by omega,Z9f];omega
theorem jA(r:Body h p)(ho1:Once h p)(hsc:h.scan≤h.low.length){k:Int}(hk:3≤k∧k≤4){o:Ob}(ho:o∈p.at k)(hg:o.gone=false){a n:Nat}(ea:o.at_=a)(en:o.size=n):
  Once (movH h k a (n+1)) (p.mv k o h.low.length (fstL (layH h) 1+h.low.length)):=by
 have e:=r.ext hsc hk ho hg ea en
 have hf:fstL (layH (movH h k a (n+1))) 1=fstL (layH h) 1:=by
  have:=e.fst 1 0 (.inl rfl);unfold refR at this;omega
 intro x hx;rw[Z31 r hk ho hg,hf];rcases Z90.1 hx with hx|hx
 ·have:=r.toTld.low_at hx;rw[ho1 x hx,if_neg (by omega)]
 ·simp at hx;subst hx;simp only;rw[Z4f r (Int.le_refl _)];simp
def Res(g:Hp)(q:Pts)(w v:Int):Prop:=(w=0∧v=0)∨ ∃k o,(k=3∨k=4)∧o∈q.at k∧w=refR (layH g) k o.at_∧o.gone=true∧v=2*o.target+1
theorem Res.ext{w v:Int}(r:Res h p w v)(e:Ext h p g q):Res g q w v:=by
 rcases r with r| ⟨k,o,hk,ho,e1,e2,e3⟩
 ·exact .inl r
 ·obtain⟨i,hi⟩:=Z8O ho;have hl:(q.at k).length=(p.at k).length:=by have:=Z9U List.length (e.obsO k (by omega));simpa using this
  have hil:=(Z8o.1 hi).1;have h2:(q.at k)[i]? =some ((q.at k)[i]'(by omega)):=Z8n _;have:=(e.gone k (by omega) i o _ hi h2).1 e2;rw[this]at h2;exact .inr ⟨k,o,hk,Z8x h2,by rw[e.fst _ _ (by omega)];exact e1,e2,e3⟩
structure FwdTo (h:Hp) (p:Pts) (w v:Int) (g:Hp) (q:Pts):Prop where
 fwd:fwd h w=(v,g,0)
 body:Body g q
 once:Once g q
 ext:Ext h p g q
 tgo:Gos g q v 1 2
 zero:v=0↔w=0
 res:(Gos h p w 1 2∧v=w∧g=h∧q=p)∨Res g q w v
theorem Body.forward(r:Body h p)(ho1:Once h p)(hsc:h.scan≤h.low.length){w:Int}(hw:Gos h p w 1 2∨Gos h p w 3 4): ∃v g q,FwdTo h p w v g q:=by
 by_cases h0:w=0
 ·subst h0;exact⟨0,h,p,TS r.lay,r,ho1,.refl h p,.inl rfl,by simp,.inr (.inl ⟨rfl,rfl⟩)⟩
 have hw': ∃k o,1≤k∧k≤4∧o∈p.at k∧w=refR (layH h) k o.at_:=by
  rcases hw with (h1| ⟨k,o,hk,ho,e⟩) | (h1| ⟨k,o,hk,ho,e⟩)
  ·exact absurd h1 h0
  ·exact⟨k,o,by omega,by omega,ho,e⟩
  ·exact absurd h1 h0
  ·exact⟨k,o,by omega,by omega,ho,e⟩
 obtain⟨k,o,k1,k4,ho,rfl⟩:=hw';by_cases h2:k≤2
 ·exact⟨_,h,p,r.fwd_here ⟨k1,h2⟩ ho,r,ho1,.refl h p,.inr ⟨k,o,by omega,ho,rfl⟩,Zav,.inl ⟨.inr ⟨k,o,by omega,ho,rfl⟩,rfl,rfl,rfl⟩⟩
 have hk:3≤k∧k≤4:=by omega
 cases hg:o.gone
 ·obtain⟨a,n,m,ea,en,em,hal,_⟩:=r.toTld.ob ⟨k1,k4⟩ ho;obtain⟨f1,_⟩:=r.fwd_wait hk ho hg ea en;have e:=r.ext hsc hk ho hg ea en;have b:=r.move hsc hk ho hg ea en;have hin:(⟨h.low.length,o.size,o.ptrs,false,0⟩:Ob)∈(p.mv k o h.low.length (fstL (layH h) 1+h.low.length)).low:=Zbi _ (.head _);have hrf:refR (layH h) 1 h.low.length=refR (layH (movH h k a (n+1))) 1 h.low.length:=(e.fst 1 _ (.inl rfl)).symm;exact⟨_,_,_,f1,b,jA r ho1 hsc hk ho hg ea en,e,.inr ⟨1,_,.inl rfl,hin,hrf⟩,iff_of_false (R1 r.lay (by omega)) h0,.inr (.inr ⟨k,_,by omega,by rw[(Z2e hk o _ _).2.2.1];exact ZaB ho,by rw[e.fst _ _ (by omega),(XD _ _ _).1],by rw[WM rfl],by rw[WM rfl];rfl⟩)⟩
 ·obtain⟨y,hy,e,_⟩:=r.gone k hk o ho hg;have hv:2*o.target+1=refR (layH h) 1 y.at_:=by unfold refR;omega
  have hyl:=r.toTld.low_at hy;refine⟨_,h,p,r.fwd_gone hk ho hg,r,ho1,.refl h p,.inr ⟨1,y,.inl rfl,hy,hv⟩,?_,.inr (.inr ⟨k,o,by omega,ho,rfl,hg,rfl⟩)⟩;rw[hv];exact iff_of_false (R1 r.lay hyl.1) h0
end
end Vm
end
section
namespace Vm
open Go Go.Proofs
set_option maxRecDepth 100000
def Wi(h:Hp):Hp:=⟨h.base,h.cap,1-h.to,false,0,[],[],h.low,h.high,h.roots⟩
def yN(g:Hp)(i:Nat):Hp:= {(fwd g ((g.roots[i]?).getD 0)).2.1 with roots:=(fwd g ((g.roots[i]?).getD 0)).2.1.roots.set i (fwd g ((g.roots[i]?).getD 0)).1}
def VQ(g:Hp):Nat→Hp
 |0=>g
 |i+1=>yN (VQ g i) i
def Qm(g:Hp):Hp:=if 0<g.low.length then {g with cycle:=true}else {g with cycle:=false,old:= [],far:= []}
def Y3(h:Hp):Hp:=Qm (VQ (Wi h) h.roots.length)
def QJ(h:Hp):Hp×Int:=if ZD h=false then(Hp.zero,1)else if h.cycle then(Hp.zero,10)else(Y3 h,0)
theorem Stands.old{ws:List Int}{o:Ob}(s:Stands ws false o):Stands ws true o:=by
 obtain⟨w,hw,hc⟩:=s.word
 have hg:o.gone=false:=by
  cases hg:o.gone
  ·rfl
  ·rw[if_pos hg]at hc;cases hc.1
 refine⟨s.nat,s.shape,s.fits,s.slots,w,hw,?_⟩;rw[if_neg (by simp[hg])]at hc⊢;exact⟨fun _=>zH (by rw[hc.2.1]),hc.2⟩
theorem Tiles.old{ws:List Int}: ∀ {a:Nat} {l:List Ob},Tiles ws false a l→Tiles ws true a l
 |_,[],h=>h
 |_,_::_,h=>⟨h.1,h.2.1.old,Tiles.old h.2.2⟩
theorem Z2w{l:List Ob}(h: ∀o∈l,o.gone=false):wtL l=szL l:=by
 have:=Z6S l;have:gnL l=0:=Z27 fun o ho=>by rw[h o ho];rfl
 omega
def Z0r(p:Pts):Pts:=⟨[],[],p.low,p.high⟩
section
variable {h:Hp} {p:Pts}
theorem yh(h:Hp)(k a:Int)(hk:k=1∨k=2):refR (layH (Wi h)) (k+2) a=refR (layH h) k a:=by
 rcases hk with rfl|rfl
 ·show 2*(h.base+(1- (1-h.to))*h.cap+a)+1=2*(h.base+h.to*h.cap+a)+1;rw[show 1- (1-h.to)=h.to by omega]
 ·show 2*(h.base+(1- (1-h.to))*h.cap+(h.cap-h.high.length)+a)+1=2*(h.base+h.to*h.cap+(h.cap-h.high.length)+a)+1;rw[show 1- (1-h.to)=h.to by omega]
theorem QX{w:Int}(hg:Gos h p w 1 2):Gos (Wi h) (Z0r p) w 3 4:=by
 rcases hg with rfl| ⟨k,o,hk,ho,rfl⟩
 ·exact .inl rfl
 ·rcases hk with rfl|rfl
  ·exact .inr ⟨3,o,.inl rfl,ho,(yh h 1 _ (.inl rfl)).symm⟩
  ·exact .inr ⟨4,o,.inr rfl,ho,(yh h 2 _ (.inr rfl)).symm⟩
theorem j7(r:Rt h p)(hc:h.cycle=false):Body (Wi h) (Z0r p):=by
 have hl:=Zm.1 r.lay;have t1:=r.tiles 1 (by omega);have t2:=r.tiles 2 (by omega);simp only[YQ,Kt,Pts.at1,Pts.at2]at t1 t2;refine⟨⟨Zm.2 ?_,fun k hk=> ?_⟩,fun k hk o ho hg=> ?_,fun k hk o ho hg j hj w hw=> ?_,?_⟩
 ·have e1:(layH h).cap=h.cap:=rfl;have e2:(layH h).base=h.base:=rfl;have e3:(layH h).to=h.to:=rfl;have e4:(layH h).low=h.low.length:=rfl;have e5:(layH h).high=h.high.length:=rfl;simp only[layH,Wi,Z9L];omega
 ·have h4:k=1∨k=2∨k=3∨k=4:=by omega
  rcases h4 with rfl|rfl|rfl|rfl
  ·exact Z8v 0
  ·exact Z8v 0
  ·exact t1.old
  ·exact t2.old
 ·have h4:k=3∨k=4:=by omega
  rcases h4 with rfl|rfl
  ·have:=t1.no_gone o ho;rw[hg]at this;cases this
  ·have:=t2.no_gone o ho;rw[hg]at this;cases this
 ·have h4:k=1∨k=2∨k=3∨k=4:=by omega
  rcases h4 with rfl|rfl|rfl|rfl
  ·cases ho
  ·cases ho
  ·have:=r.ptr 1 (by omega) o ho hg j hj w hw;obtain⟨a,n,m,ea,en,em,hal,_⟩:=r.toTld.ob (k:=1) (by omega) ho;simp only[YQ]at hal;unfold X0 at this⊢;rw[if_neg (by omega),if_neg (by rw[(r.rest hc).1];omega)]at this;rw[if_pos (by omega)];exact QX this
  ·have:=r.ptr 2 (by omega) o ho hg j hj w hw;unfold X0 at this⊢;rw[if_neg (by omega),if_neg (by omega)]at this;rw[if_pos (by omega)];exact QX this
 ·have h1:=t1.sum (Z9n _);have h2:=t2.sum (Z9n _);have w1:=Z2w t1.no_gone;have w2:=Z2w t2.no_gone;have hrm:=r.room;simp only[Yi,Z0r,Wi,Z9L];omega
structure FlipI (h:Hp) (p:Pts) (i:Nat) (g:Hp) (q:Pts):Prop where
 body:Body g q
 once:Once g q
 ext:Ext (Wi h) (Z0r p) {g with roots:=h.roots} q
 len:g.roots.length=h.roots.length
 rest: ∀j,i≤j→g.roots[j]? =h.roots[j]?
 did: ∀j:Nat,j<i→ ∀w v,h.roots[j]? =some w→g.roots[j]? =some v→Gos g q v 1 2∧Res g q w v
theorem Body.roots(r:Body h p)(l:List Int):Body {h with roots:=l} p:=⟨⟨r.lay,r.tiles⟩,r.gone,r.ptr,r.room⟩
theorem JC(r:Rt h p){i:Nat}(hi:i<h.roots.length){g:Hp}{q:Pts}(I:FlipI h p i g q):(∃v g' q',FwdTo g q (h.roots[i]) v g' q')∧ ∃q',FlipI h p (i+1) (yN g i) q'∧(fwd g ((g.roots[i]?).getD 0)).2.2=0:=by
 have hr:g.roots[i]? =some h.roots[i]:=by rw[I.rest i (Z8v _)];exact Z8n hi
 have hw:Gos g q h.roots[i] 3 4:=by
  have h1:=I.ext.gos (i:=3) (j:=4) (by omega) (by omega) (QX (r.roots _ (Z8M hi)));exact h1
 have hsc:g.scan≤g.low.length:=by
  have:g.scan=0:=I.ext.scan;omega
 obtain⟨v,g',q',f⟩:=I.body.forward I.once hsc (.inr hw);refine⟨⟨v,g',q',f⟩,q',?_,by rw[hr,Z91,f.fwd]⟩
 have e:yN g i= {g' with roots:=g'.roots.set i v}:=by
  unfold yN;rw[hr,Z91,f.fwd]
 have er:g'.roots=g.roots:=f.ext.roots
 have hres:Res g' q' h.roots[i] v:=by
  rcases f.res with ⟨hg,e1,e2,e3⟩ |hr
  ·rcases hw with h0| ⟨k,o,hk,ho,e4⟩
   ·exact .inl ⟨h0,e1.trans h0⟩
   ·rcases hg with h0| ⟨k',o',hk',ho',e5⟩
    ·exact .inl ⟨h0,e1.trans h0⟩
    ·obtain⟨ee,_⟩:=I.body.toTld.inj (by omega) (by omega) ho ho' (e4.symm.trans e5);omega
  ·exact hr
 rw[e];refine⟨f.body.roots _,f.once,I.ext.trans ⟨f.ext.low,f.ext.high,f.ext.base,f.ext.cap,f.ext.tos,f.ext.cycle,f.ext.scan,rfl,f.ext.oldL,f.ext.farL,f.ext.obsL,f.ext.obsH,f.ext.obsO,f.ext.gone,f.ext.room⟩,?_,fun j hj=> ?_,fun j hj w u hw' hu=> ?_⟩
 ·simp only[Z9y,er];exact I.len
 ·simp only;rw[Z96 (by omega),er];exact I.rest j (by omega)
 ·simp only at hu;by_cases hji:j=i
  ·subst hji;rw[Z9u (by rw[er,I.len];exact hi)]at hu;cases hu;rw[Z8n hi]at hw';cases hw';exact⟨f.tgo,hres⟩
  ·rw[Z96 (by omega),er]at hu;obtain⟨h1,h2⟩:=I.did j (by omega) w u hw' hu;exact⟨(show Gos g' q' u 1 2 from f.ext.gos (by omega) (by omega) h1),(show Res g' q' w u from h2.ext f.ext)⟩
theorem UK(r:Rt h p)(hc:h.cycle=false): ∀i,i≤h.roots.length→ ∃q,FlipI h p i (VQ (Wi h) i) q
 |0,_=>⟨Z0r p,j7 r hc,fun o ho=>(by cases ho),.refl _ _,rfl,fun _ _=>rfl,fun j hj=>(by omega)⟩
 |i+1,hi=>by
  obtain⟨q,I⟩:=UK r hc i (by omega);obtain⟨_,q',I',_⟩:=JC r (by omega) I;exact⟨q',I'⟩
theorem Z1H(r:Rt h p)(hc:h.cycle=false): ∃g q,FlipI h p h.roots.length g q∧Y3 h=Qm g∧Rt (Qm g) (if 0<g.low.length then q else⟨[],[],[],[]⟩)∧(¬0<g.low.length→g.low= []∧q.low= []∧q.high= []∧ ∀w∈g.roots,w=0):=by
 obtain⟨q,I⟩:=UK r hc h.roots.length (Z8v _);refine⟨_,q,I,rfl,?_⟩;generalize VQ (Wi h) h.roots.length=g at*;have hscan:g.scan=0:=I.ext.scan;have hhigh:g.high= []:=I.ext.high;have hqh:q.high= []:=I.ext.obsH
 have hroots: ∀w∈g.roots,Gos g q w 1 2:=fun w hw=>by
  obtain⟨j,hj⟩:=Z8O hw;have hl:=(Z8o.1 hj).1;rw[I.len]at hl;exact(I.did j hl _ w (Z8n hl) hj).1
 have hn:g.roots.length≤16:=by rw[I.len];exact r.nroots
 by_cases h0:0<g.low.length
 ·refine⟨?_,fun h=>absurd h0 h⟩;rw[if_pos h0];unfold Qm;rw[if_pos h0];have b:=I.body;exact⟨⟨⟨b.lay,b.tiles⟩,b.gone,b.ptr,b.room⟩,hn,by show 0≤g.scan;omega,by show g.scan≤g.low.length;omega,fun _=>(by show g.scan<g.low.length;omega),fun h=>(by cases h),fun _=>I.once,hroots⟩
 ·have hlow:g.low= []:=Z9O.1 (by omega)
  have hql:q.low= []:=by
   have:=I.body.tiles 1 (by omega);simp only[YQ,Pts.at1,hlow]at this;exact this.nil
  have hz: ∀w∈g.roots,w=0:=fun w hw=>by
   rcases hroots w hw with h| ⟨k,o,hk,ho,_⟩
   ·exact h
   ·rcases hk with rfl|rfl
    ·simp only[Pts.at1,hql]at ho;cases ho
    ·simp only[Pts.at2,hqh]at ho;cases ho
  refine⟨?_,fun _=>⟨hlow,hql,hqh,hz⟩⟩;rw[if_neg h0];unfold Qm;rw[if_neg h0];have hl:=Zm.1 I.body.lay;have hat: ∀k,(⟨[],[],[],[]⟩:Pts).at k= []:=fun k=>by unfold Pts.at;split<;>(try split)<;>(try split)<;>rfl
  have hpa: ∀k,Z5 {g with cycle:=false,old:= [],far:= []} k= []:=fun k=>by unfold Z5;simp only[hlow,hhigh];split<;>(try split)<;>(try split)<;>rfl
  refine⟨⟨⟨Zm.2 ?_,fun k hk=> ?_⟩,fun k hk o ho=> ?_,fun k hk o ho=> ?_,?_⟩,hn,by show 0≤g.scan;omega,by show g.scan≤g.low.length;omega,fun h=>(by cases h),fun _=>⟨by show g.scan=g.low.length;rw[hlow,hscan];rfl,rfl,rfl⟩,fun h=>(by cases h),fun w hw=> .inl (hz w hw)⟩
  ·simp only[layH,Z9L]at hl⊢;omega
  ·rw[hat,hpa];exact Z8v _
  ·rw[hat]at ho;cases ho
  ·rw[hat]at ho;cases ho
  ·show(g.low.length:Int)+g.high.length+Yi ⟨[],[],[],[]⟩≤g.cap;rw[hlow,hhigh];simp only[layH]at hl;simp[Yi,wtL];omega
end
end Vm
end
