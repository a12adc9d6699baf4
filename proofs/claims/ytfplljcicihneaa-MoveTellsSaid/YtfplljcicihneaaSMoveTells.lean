/-
  The law MoveTells holds of the given program, for every input.
-/
import Derived.RecoverIn
import Derived.RangeFuncBox
import Derived.Maps.AppendAt
import Derived.Maps.OwnIn
import Derived.Laws.StructEq
import Derived.Deep.RegionHeld3
import Derived.Deep.CutRange
import Derived.Deep.DeepCutAuto
import Derived.Deep.LoopGhost
import Derived.Test.YtfplljcicihneaaRows
import Derived.Test.YtfplljcicihneaaSMoveTells5
set_option linter.unusedSimpArgs false
set_option linter.unusedVariables false
section
namespace Vm
open Go Go.Proofs Go.RowKit Go.Shelf
set_option maxHeartbeats 1000000
set_option maxRecDepth 100000
def RowIn(bl:Nat)(W:World):Prop:= ∀k,rowB W bl=some k→k<W.heap.size
theorem grown_trans{A B C:World}{r:Option Nat}(h:A.grownBy B r)(k:B.grownBy C r):A.grownBy C r:=
 ⟨k.os.trans h.os,k.tape.trans h.tape,k.output.trans h.output,Nat.le_trans h.size k.size,fun i hi hn=>(k.block i (Nat.lt_of_lt_of_le hi h.size) hn).trans (h.block i hi hn)⟩
theorem walkR_step(ws:List Int)(shs:List (Int×Int))(old:Bool){a t t':Nat}{x:Int}{ob:Ob}(hx:ws[a]? =some x)(ho:objR shs old a t x=some (ob,t')){f:Nat}{pre:List Ob}:
  walkR ws shs old (f+1) a t pre=if(ws.length:Int) <a+1+ob.size then([],2)else if slotsOk ((ws.drop (a+1)).take ob.size.toNat) ob.gone ob.ptrs 0=false then([],3)else walkR ws shs old f (a+1+ob.size.toNat) t' (pre++ [ob]):=by
 rw[walkR,hx]
 simp only
 rw[ho]
theorem each1_seq(n:Nat){w:World}{ws:List Int}{g o cap bw bg base bl:Nat}{bt:Option Nat}{sv gv:Value}{shs:List (Int×Int)}{old:Bool}{K:Nat→World→Prop}(hst:Stat6 ws g o cap sv bw bg base bl bt gv w)
  (hbl:bl<base) (hltb:some bl≠bt) (hbeg:BegOk ws g o cap gv shs old bt K) (hK0:K 0 w) (hKB: ∀t W W',K t W→Below W.heap.size W W'→K t W') (hKK: ∀t W W',K t W→KpW bl base W W'→K t W'):
  SeqP Fence.wide n Try.prog 129 #[.pointer (some ⟨bw,0,none⟩),.pointer (some ⟨bg,0,none⟩)] (fun ob:Ob=> #[obA ob]) (KpW bl base) (endS ws shs old K) (endP ws shs old) ws.length bt (RowIn bl) w:=by
 intro l J W hW hJx hJ hY h0
 refine callsIn_of_wp Try.func129 rfl trivial ?_ rfl
 simp only[Try.ntmps129,List.size_toArray,List.length_cons,List.length_nil,Nat.reduceAdd,Nat.reduceSub,Array.replicate_succ,Array.replicate_zero,List.push_toArray,List.append_toArray,List.nil_append,List.cons_append]
 have HS0:=Lib.hid (hst.grown (grown_of hW bt))
 have HK0:=Lib.hid (hKB 0 w W hK0 hW)
 have HJ0:=Lib.hid h0
 clear h0
 gi_wp2
 gi_loopw [4] (fun p wr=> ∃(a t f:Nat) (pre:List Ob),p= .int .i64 a∧Hid (J pre wr∧K t wr∧Stat6 ws g o cap sv bw bg base bl bt gv wr∧ws.length<f+a∧0<f∧a≤ws.length∧pre.length≤a∧walkW ws shs old=walkR ws shs old f a t pre))
  (fun p _=>ws.length- (intOf p).toNat)
 case atStart=>exact⟨0,0,ws.length+1,[],rfl,Lib.hid ⟨HJ0.out,HK0.out,HS0.out,by omega,by omega,by omega,by simp,rfl⟩⟩
 case round=>
  obtain⟨a,t,f,pre,rfl,HI⟩:=hrel
  have hst':=HI.out.2.2.1
  have hsv:=hst'.sv_
  have c1:wr.cell? ⟨bw,0,none⟩=some sv:=by rw[cell_of_row _ _ _ _ _ _ hst'.hbw];rfl
  have c2:wr.cell? ⟨bg,0,none⟩=some gv:=by rw[cell_of_row _ _ _ _ _ _ hst'.hbg];rfl
  have hlen:=hst'.words.len
  clear hst'
  by_cases hlt:a<ws.length
  ·obtain⟨x,hx⟩: ∃x,ws[a]? =some x:=⟨_,List.getElem?_eq_getElem hlt⟩
   obtain rfl:sv= .slice (some ⟨g,o,none⟩) ws.length cap:=hsv.resolve_right (fun h=>by rw[h.1]at hlt;simp at hlt)
   clear hsv
   have hlt':((a:Int) <ws.length)=True:=eq_true (by omega)
   have hb:=hbeg wr a t x HI.out.2.2.1.words (by have:=HI.out.2.2.1.lt;omega) HI.out.2.1 hx
   cases ho:objR shs old a t x with
   |none=>
    rw[ho]at hb
    have HX:=Lib.hid hb
    clear hb
    gi_wp2
    refine⟨trivial,fun h=>(by cases h),(callsIn_wide.2 HX.out).mono ?_⟩
    rintro e w1 ⟨hg1,rfl⟩
    have HG1:=Lib.hid hg1
    clear hg1
    gi_wp2
    refine⟨rfl,.inr ⟨_,pre,rfl,⟨3,.inr rfl,rfl,?_⟩,hJ _ _ _ _ HI.out.1 HG1.out (fun r e=>e.symm)⟩⟩
    obtain⟨_,_,_,hf,hf0,_,_,hR⟩:=HI.out
    cases f with
    |zero=>omega
    |succ f=>
     rw[hR,walkR,hx]
     simp only
     rw[ho]
   |some q=>
    obtain⟨ob,t'⟩:=q
    rw[ho]at hb
    have HX:=Lib.hid hb
    clear hb
    obtain⟨hsh,hat⟩:=objR_shape ho
    gi_wp2
    refine⟨trivial,fun h=>(by cases h),(callsIn_wide.2 HX.out).mono ?_⟩
    rintro e w1 ⟨hg1,rfl,hk1⟩
    have HG1:=Lib.hid hg1
    have HK1:=Lib.hid hk1
    have hS1:=HI.out.2.2.1.grown hg1
    have HS1:=Lib.hid hS1
    have e1: ∀O,(w1.alloc O).cell? ⟨bw,0,none⟩=some (.slice (some ⟨g,o,none⟩) ws.length cap):=fun O=>by
     rw[World.cell?_alloc_lt _ _ _ (heap_lt hS1.hbw),cell_of_row _ _ _ _ _ _ hS1.hbw];rfl
    have hgO:wr.grownBy (w1.alloc (.cells #[.int .i64 a,.int .i64 ob.size,.int .i64 ob.ptrs,.bool ob.gone,.int .u64 ob.target] 57)) bt:=grown_trans hg1 (World.grownBy_alloc _ _ _)
    have hSO:=Lib.hid (HI.out.2.2.1.grown hgO)
    have hh:=hold_walk (w1.alloc (.cells #[.int .i64 a,.int .i64 ob.size,.int .i64 ob.ptrs,.bool ob.gone,.int .u64 ob.target] 57)) ws g o cap hSO.out.words (by have:=hSO.out.lt;omega) ob a hat hlt hsh
    unfold obA at hh
    rw[hat]at hh
    have HGO:=Lib.hid hgO
    have HHold:=Lib.hid hh
    have hstep: ∀f pre,walkR ws shs old (f+1) a t pre=_:=fun f pre=>walkR_step ws shs old hx ho (f:=f) (pre:=pre)
    have HST:=Lib.hid hstep
    clear hg1 hk1 hS1 hgO hh hstep hx
    unfold obA
    gi_wp2
    refine⟨trivial,fun h=>(by cases h),(callsIn_wide.2 HHold.out).mono ?_⟩
    rintro e w2 ⟨rfl,hb2⟩
    have hG2:wr.grownBy w2 bt:=grown_trans HGO.out (grown_of hb2 bt)
    have HG2:=Lib.hid hG2
    have HB2:=Lib.hid hb2
    unfold holdE
    by_cases h1:(ws.length:Int) <ob.at_+1+ob.size
    ·rw[if_pos h1]
     rw[hat]at h1
     clear hb2 hG2
     gi_wp2
     refine⟨rfl,.inr ⟨_,pre,rfl,⟨2,.inl rfl,rfl,?_⟩,hJ _ _ _ _ HI.out.1 HG2.out (fun r e=>e.symm)⟩⟩
     obtain⟨_,_,_,hf,hf0,_,_,hR⟩:=HI.out
     obtain⟨f,rfl⟩: ∃f',f=f'+1:=⟨f-1,by omega⟩
     rw[hR,HST.out,if_pos h1]
    ·rw[if_neg h1]
     by_cases h2:slotsOk ((ws.drop (ob.at_.toNat+1)).take ob.size.toNat) ob.gone ob.ptrs 0=false
     ·rw[if_pos h2]
      rw[hat]at h1 h2
      clear hb2 hG2
      gi_wp2
      refine⟨rfl,.inr ⟨_,pre,rfl,⟨3,.inr rfl,rfl,?_⟩,hJ _ _ _ _ HI.out.1 HG2.out (fun r e=>e.symm)⟩⟩
      obtain⟨_,_,_,hf,hf0,_,_,hR⟩:=HI.out
      obtain⟨f,rfl⟩: ∃f',f=f'+1:=⟨f-1,by omega⟩
      rw[hR,HST.out,if_neg (by omega)]
      simp only[Int.toNat_natCast]at h2
      rw[if_pos h2]
     ·rw[if_neg h2]
      rw[hat]at h1 h2
      simp only[Int.toNat_natCast]at h2
      have HH2:=Lib.hid (And.intro h1 h2)
      have hJ2:=hJ _ _ _ _ HI.out.1 hG2 (fun r e=>e.symm)
      have HJ2:=Lib.hid hJ2
      have HS2:=Lib.hid (HI.out.2.2.1.grown hG2)
      have hbx:w2.heap[w1.heap.size]? =some (.cells #[.int .i64 a,.int .i64 ob.size,.int .i64 ob.ptrs,.bool ob.gone,.int .u64 ob.target] 57 (0,0)):=(hb2.block _ (by simp)).trans (heap_alloc_new w1 _)
      have HBX:=Lib.hid hbx
      obtain⟨fn,tmps,assign,body,hy,hR⟩:=hY pre ob w2 hJ2 (by have:=HI.out.2.2.2.2.2.2.1;omega)
      unfold obA at hy
      rw[hat]at hy
      have d0:w2.cell? ⟨w1.heap.size,0,none⟩=some (.int .i64 a):=by rw[cell_of_row _ _ _ _ _ _ hbx];rfl
      have d1:w2.cell? ⟨w1.heap.size,1,none⟩=some (.int .i64 ob.size):=by rw[cell_of_row _ _ _ _ _ _ hbx];rfl
      have d2:w2.cell? ⟨w1.heap.size,2,none⟩=some (.int .i64 ob.ptrs):=by rw[cell_of_row _ _ _ _ _ _ hbx];rfl
      have d3:w2.cell? ⟨w1.heap.size,3,none⟩=some (.bool ob.gone):=by rw[cell_of_row _ _ _ _ _ _ hbx];rfl
      have d4:w2.cell? ⟨w1.heap.size,4,none⟩=some (.int .u64 ob.target):=by rw[cell_of_row _ _ _ _ _ _ hbx];rfl
      clear hb2 hG2 hJ2 hbx
      gi_wp2
      refine⟨fun h=>(by cases h),hR.mono ?_⟩
      rintro e W3 ⟨rfl,hJ3,hk3⟩
      have HJ3:=Lib.hid hJ3
      have HK3:=Lib.hid hk3
      have hrow2:rowB w2 bl≠some w1.heap.size:=by
       intro e
       have hlb:bl<wr.heap.size:=by have:=HI.out.2.2.1.lt.2.2.2;omega
       have:rowB w2 bl=rowB wr bl:=by
        unfold rowB
        rw[World.cell?_of_block (a:=⟨bl,0,none⟩) (HG2.out.block bl hlb hltb)]
       rw[this]at e
       have:=hJx _ _ HI.out.1 _ e
       have:=HG1.out.size
       omega
      have hbx3:=hk3.same _ _ HBX.out rfl (by have:=HI.out.2.2.1.lt.2.2.2;have:=HG1.out.size;omega) (.inr hrow2)
      have f1:W3.cell? ⟨w1.heap.size,1,none⟩=some (.int .i64 ob.size):=by rw[cell_of_row _ _ _ _ _ _ hbx3];rfl
      have hS3:=HS2.out.kp hk3
      have hK2:K t' w2:=hKB _ _ _ HK1.out (((Below.refl _ _).alloc (Nat.le_refl _) _).trans (HB2.out.mono (by simp)))
      have hK3:=hKK _ _ _ hK2 hk3
      have HS3:=Lib.hid (And.intro hS3 hK3)
      obtain⟨m,hm⟩: ∃m:Nat,ob.size=m:=⟨ob.size.toNat,by have:=(shapeOk_iff.1 hsh).1;omega⟩
      rw[hm]at f1
      have hm5:(m:Int)≤255:=by have:=(shapeOk_iff.1 hsh);omega
      have q1:IntKind.i64.wrap (1+(m:Int))=((1+m:Nat):Int):=by rw[wrap_i _ (by omega) (by omega)];omega
      have q2:IntKind.i64.wrap ((a:Int)+((1+m:Nat):Int))=((a+(1+m):Nat):Int):=by rw[wrap_i _ (by omega) (by omega)];omega
      clear hJ3 hk3 hbx3 hS3 hK2 hK3 hrow2
      clear h2
      gi_wp2
      obtain⟨_,_,_,hf,hf0,hal,hpl,hR⟩:=HI.out
      obtain⟨f,rfl⟩: ∃f',f=f'+1:=⟨f-1,by omega⟩
      rw[HST.out,if_neg (by have:=HH2.out.1;omega),if_neg HH2.out.2]at hR
      have hle:a+1+m≤ws.length:=by omega
      refine⟨⟨a+(1+m),t',f,pre++ [ob],by simp,Lib.hid ⟨HJ3.out,HS3.out.2,HS3.out.1,by omega,by omega,by omega,by simp;omega,?_⟩⟩,by simp[intOf];omega⟩
      rw[hR,hm,Int.toNat_natCast,Nat.add_assoc a 1 m]
  ·have hnlt:((a:Int) <ws.length)=False:=eq_false (by omega)
   have HE:Hid (endS ws shs old K pre wr):=Lib.hid (by
    obtain⟨_,hK,_,hf,hf0,_,_,hR⟩:=HI.out
    refine⟨t,hK,?_⟩
    cases f with
    |zero=>omega
    |succ f=>
     rw[hR,walkR,List.getElem?_eq_none (by omega)])
   obtain⟨sa,sc,rfl⟩: ∃sa sc,sv= .slice sa ws.length sc:=by
    rcases hsv with rfl| ⟨h0,sa,sc,rfl⟩
    ·exact⟨_,_,rfl⟩
    ·exact⟨sa,sc,by rw[h0];rfl⟩
   clear hsv
   gi_wp2
   go_end0
   exact .inl ⟨_,pre,rfl,HE.out,HI.out.1⟩
end Vm
namespace Vm
open Go Go.Proofs Go.RowKit Go.Shelf
set_option maxHeartbeats 1000000
set_option maxRecDepth 100000
theorem each_walk(w:World)(sv gv:Value)(hs: ∃a n c,sv= .slice a n c)(hg:gv= .nilFunc∨ ∃f vs,gv= .func (.func f) #[] vs):
  Calls Try.prog 128 #[sv,gv] w fun e w'=>e= .returned (.func (.func 129) #[] #[.pointer (some ⟨w.heap.size,0,none⟩),.pointer (some ⟨w.heap.size+1,0,none⟩)])∧
   w'=(w.alloc (.cells #[sv] 28)).alloc (.cells #[gv] 177):=by
 have hmf: ∀(fn:Go.Fn) (first cap:Array Value) (w:World),(Instr.makeFunc fn first cap).run Try.prog w= .ok (.func fn first cap) w:=fun _ _ _ _=>rfl
 obtain⟨a,n,c,rfl⟩:=hs
 rcases hg with rfl| ⟨f,vs,rfl⟩
 ·go_enter Try.func128,Try.ntmps128
  go_wp2
  exact bodyPost_ret (results_tmp rfl _ _ _) rfl ⟨rfl,rfl⟩
 ·go_enter Try.func128,Try.ntmps128
  go_wp2
  exact bodyPost_ret (results_tmp rfl _ _ _) rfl ⟨rfl,rfl⟩
theorem neq_ii(w:World):Sem.run Try.prog (binOp .neq 20 .nilIface .nilIface) w= .ok (.bool false) w:=by rfl
theorem neq_iv(w:World)(T:TypeId)(v:Value):Sem.run Try.prog (binOp .neq 20 (.iface T v) .nilIface) w= .ok (.bool true) w:=by rfl
theorem ta_ok(w:World)(x:Int):Sem.run Try.prog (Instr.typeAssert (.iface 176 (.agg #[.int .i64 x])) 20 176 true) w= .ok (.tuple #[.agg #[.int .i64 x],.bool true]) w:=by rfl
theorem catch_idle(n:Nat)(p q:Addr)(w:World):
  CallsDIn Fence.wide n Try.prog 127 #[.pointer (some p),.pointer (some q)] .returning w fun e u' w'=>e= .returned (.tuple #[])∧u'= .returning∧w'=w:=by
 have h1:=neq_ii
 refine callsDIn_of_wpSIn Try.func127 rfl trivial fun c₀ cs hu=> ?_
 simp only[Try.ntmps127,List.size_toArray,List.length_cons,List.length_nil,Nat.reduceAdd,Nat.reduceSub,Array.replicate_succ,Array.replicate_zero,List.push_toArray,List.append_toArray,List.nil_append,List.cons_append]
 apply wpSIn_seq
 apply wpSIn_region
 simp[wpOpsSIn,go_sem,recoverD,hu,Exit.thenS]
 refine wpSIn_of_wpIn rfl ?_
 gi_wp2
 cases c₀
 simp_all [bodyPostS,results,Try.results127]
theorem catch_panicking(n:Nat)(bp bq:Nat)(x:Int)(w:World)(vp vq:Value)(hp:Boxed w bp 49 vp)(hq:Boxed w bq 37 vq)(hne:bp≠bq):
  CallsDIn Fence.wide n Try.prog 127 #[.pointer (some ⟨bp,0,none⟩),.pointer (some ⟨bq,0,none⟩)] (.panicking (wrongA x)) w fun e u' w'=>
   e= .returned (.tuple #[])∧u'= .panicking [{v:= .iface 176 (.agg #[.int .i64 x]),recovered:=true}]∧
   Boxed w' bp 49 (.slice none 0 0)∧Boxed w' bq 37 (.int .i64 x)∧(w.heap.size≤w'.heap.size∧ ∀k,k<w.heap.size→k≠bp→k≠bq→w'.heap[k]? =w.heap[k]?)∧w'.os=w.os∧w'.tape=w.tape∧w'.output=w.output:=by
 have h1:=neq_iv
 have h2:=ta_ok
 have p1:=(hp.alloc (.cells #[.int .i64 x] 176)).cell
 have p2:=(hp.alloc (.cells #[.int .i64 x] 176)).frozen
 have q1:=(hq.alloc (.cells #[.int .i64 x] 176)).cell
 have q2:=(hq.alloc (.cells #[.int .i64 x] 176)).frozen
 have p3:=hp.cell
 have p4:=hp.frozen
 have q3:=hq.cell
 have q4:=hq.frozen
 have l1:=hp.lt
 have l2:=hq.lt
 have n1: ¬bp=bq:=hne
 have n2: ¬bq=bp:=fun e=>hne e.symm
 have n3: ¬bp=w.heap.size:=by omega
 have n4: ¬w.heap.size=bp:=by omega
 have n5: ¬bq=w.heap.size:=by omega
 have n6: ¬w.heap.size=bq:=by omega
 have HP:=Lib.hid (And.intro hp hq)
 clear hp hq hne
 refine callsDIn_of_wpSIn Try.func127 rfl trivial fun c₀ cs hu=> ?_
 simp only[Try.ntmps127,List.size_toArray,List.length_cons,List.length_nil,Nat.reduceAdd,Nat.reduceSub,Array.replicate_succ,Array.replicate_zero,List.push_toArray,List.append_toArray,List.nil_append,List.cons_append]
 apply wpSIn_seq
 apply wpSIn_region
 simp[wpOpsSIn,go_sem,recoverD,hu,wrongA,Exit.thenS]
 refine wpSIn_of_wpIn rfl ?_
 gi_wp2
 gi_region
 all_goals gi_wp2
 obtain⟨hp,hq⟩:=HP.out
 have b1:Boxed ((w.setCell ⟨bp,0,none⟩ (.slice none 0 0)).setCell ⟨bq,0,none⟩ (.int .i64 x)) bp 49 (.slice none 0 0):=(Below.heap_setCell _ ⟨bq,0,none⟩ _ bp n1).trans (hp.set _)
 have b2:Boxed ((w.setCell ⟨bp,0,none⟩ (.slice none 0 0)).setCell ⟨bq,0,none⟩ (.int .i64 x)) bq 37 (.int .i64 x):=Boxed.set _ (show Boxed (w.setCell ⟨bp,0,none⟩ (.slice none 0 0)) bq 37 vq from(Below.heap_setCell _ ⟨bp,0,none⟩ _ bq n2).trans hq)
 refine⟨rfl,_,rfl,_,by simp[results,Try.results127],rfl,rfl,b1.alloc _,b2.alloc _,⟨?_,fun k hk k1 k2=> ?_⟩,rfl,rfl,rfl⟩
 ·show _≤(World.alloc _ _).heap.size
  rw[World.size_alloc]
  simp[World.setCell]
 ·show(World.alloc _ _).heap[k]? =_
  rw[Below.heap_alloc _ _ _ (by simp[World.setCell];exact hk),Below.heap_setCell _ _ _ _ k2,Below.heap_setCell _ _ _ _ k1]
end Vm
namespace Vm
open Go Go.Proofs Go.RowKit Go.Shelf
set_option maxHeartbeats 1000000
set_option maxRecDepth 100000
def obC(ob:Ob):List Value:= [.int .i64 ob.at_,.int .i64 ob.size,.int .i64 ob.ptrs,.bool ob.gone,.int .u64 ob.target]
def obsC(l:List Ob):List Value:=l.flatMap obC
theorem obsC_snoc(l:List Ob)(x:Ob):obsC (l++ [x])=obsC l++obC x:=by simp[obsC]
structure WIv (w:World) (bt:Option Nat) (pre:List Ob) (W:World):Prop where
 row: ∃v,Boxed W w.heap.size 49 v∧W.ownsRow (w.heap.size+4) 57 5 v pre.length (obsC pre)
 e:Boxed W (w.heap.size+1) 37 (.int .i64 0)
 gr:w.grownBy W bt
 size:w.heap.size+4≤W.heap.size
theorem grown_row{w X Y:World}{bt row:Option Nat}(h:w.grownBy X bt)(k:X.grownBy Y row)(hr: ∀r,row=some r→some r=bt∨w.heap.size≤r):w.grownBy Y bt:=
 ⟨k.os.trans h.os,k.tape.trans h.tape,k.output.trans h.output,Nat.le_trans h.size k.size,fun i hi hn=>
  (k.block i (Nat.lt_of_lt_of_le hi h.size) (fun e=>by rcases hr i e.symm with e2|e2;exact hn e2;omega)).trans (h.block i hi hn)⟩
theorem rowB_eq{W:World}{b:Nat}{t:TypeId}{v:Value}(h:Boxed W b t v):rowB W b=v.ownBlock:=by
 unfold rowB
 rw[h.cell]
 rfl
theorem WIv.rowIn{w:World}{bt:Option Nat}{pre:List Ob}{W:World}(h:WIv w bt pre W):RowIn w.heap.size W:=by
 obtain⟨v,hv,hr⟩:=h.row
 intro k hk
 rw[rowB_eq hv]at hk
 exact(hr.lt k hk).2
theorem WIv.own{w:World}{bt:Option Nat}(hbt: ∀r,bt=some r→r<w.heap.size):OwnP bt (w.heap.size+4) (WIv w bt):=by
 intro s X Y row h hg hr
 have hne: ∀k,w.heap.size≤k→k<w.heap.size+4→some k≠row:=by
  intro k h1 h2 e
  rcases hr k e.symm with e2| ⟨e2,_⟩
  ·have:=hbt k e2.symm;omega
  ·omega
 obtain⟨v,hv,hrow⟩:=h.row
 refine⟨⟨v,hv.kept hg (hne _ (Nat.le_refl _) (by omega)),hrow.kept hg ?_⟩,h.e.kept hg (hne _ (by omega) (by omega)),grown_row h.gr hg fun r e=>(hr r e).imp id fun h2=>by omega,Nat.le_trans h.size hg.size⟩
 cases hb:v.ownBlock with
 |none=>exact .inl rfl
 |some b=>
  refine .inr fun e=> ?_
  have h1:=hrow.lt b hb
  rcases hr b e.symm with e2| ⟨_,o,ho,hc⟩
  ·have:=hbt b e2.symm;omega
  ·rcases hrow.2 with ⟨rfl,_⟩ | ⟨g,cap,cur,rfl,_,hgb,_⟩
   ·simp[Value.ownBlock]at hb
   ·obtain rfl:g=b:=by simpa[Value.ownBlock]using hb
    rw[hgb]at ho;cases ho;cases hc
theorem WIv.appended{w W w1:World}{bt:Option Nat}{pre:List Ob}{x:Ob}{v v':Value}{tmp:Obj}(hbt: ∀r,bt=some r→r<w.heap.size)(h:WIv w bt pre W)(hv:Boxed W w.heap.size 49 v)
  (hrow:W.ownsRow (w.heap.size+4) 57 5 v pre.length (obsC pre)) (hown':w1.ownsRow (w.heap.size+4) 57 5 v' (pre.length+1) (obsC pre++obC x))
  (hgrow:(W.alloc tmp).grownBy w1 v.ownBlock) (hat:v'.ownBlock=v.ownBlock∨v'.ownBlock=some (W.alloc tmp).heap.size):
  Boxed w1 w.heap.size 49 v∧KeepsFrom (w.heap.size+4) W (w1.setCell ⟨w.heap.size,0,none⟩ v')∧KpW w.heap.size (w.heap.size+4) W (w1.setCell ⟨w.heap.size,0,none⟩ v')∧WIv w bt (pre++ [x]) (w1.setCell ⟨w.heap.size,0,none⟩ v'):=by
 have hsz:=h.size
 obtain⟨hv1,hv2,hr2,hk2,hb2⟩:=hv.appended (by decide) (own_lower hrow (B':=w.heap.size) (by omega)) (by omega) (Nat.le_refl _) (own_lower hown' (B':=w.heap.size) (by omega)) hgrow
 have hlow: ∀b,v.ownBlock=some b→w.heap.size+4≤b:=fun b hb=>(hrow.lt b hb).1
 have hrow2:(w1.setCell ⟨w.heap.size,0,none⟩ v').ownsRow (w.heap.size+4) 57 5 v' (pre.length+1) (obsC pre++obC x):=hown'.kept (grownBy_setCell' w1 w.heap.size v') (by
  cases hb:v'.ownBlock with
  |none=>exact .inl rfl
  |some b=>exact .inr fun e=>by have h1:=(hown'.lt b hb).1;cases e;omega)
 refine⟨hv1,hk2.from _,⟨hk2.size,fun k o hk hc hn hr=> ?_,fun k hk e=> ?_⟩,⟨v',hv2,?_⟩,?_,?_,Nat.le_trans hsz hk2.size⟩
 ·rw[Below.heap_setCell _ _ _ _ hn,hgrow.block k (by have:=heap_lt hk;simp;omega) (fun e=> ?_),Below.heap_alloc _ _ _ (heap_lt hk),hk]
  rcases hr with hr|hr
  ·have:=hlow k e.symm;omega
  ·exact hr ((rowB_eq hv).trans e.symm)
 ·rw[rowB_eq hv2]at e
  rw[rowB_eq hv]
  rcases hat with hat|hat
  ·rw[←hat];exact e
  ·rw[hat]at e
   simp at e
   omega
 ·rw[List.length_append,obsC_snoc];exact hrow2
 ·have he1:Boxed w1 (w.heap.size+1) 37 (.int .i64 0):=(h.e.alloc tmp).kept hgrow (fun e=>by have:=hlow _ e.symm;omega)
  exact(Below.heap_setCell _ _ _ _ (by show w.heap.size+1≠w.heap.size;omega)).trans he1
 ·refine grown_row (grown_row (grown_row h.gr (World.grownBy_alloc W tmp none) (by simp)) hgrow fun r e=> .inr ?_) (grownBy_setCell' w1 w.heap.size v') fun r e=> .inr ?_
  ·have:=hlow r e;omega
  ·cases e;exact Nat.le_refl _
theorem KpW.alloc{bl base:Nat}{W:World}(o:Obj)(hbl:bl<W.heap.size):KpW bl base W (W.alloc o):=by
 refine⟨by simp,fun k o2 hk _ _ _=>(Below.heap_alloc _ _ _ (heap_lt hk)).trans hk,fun k _ hr=> ?_⟩
 unfold rowB at hr⊢
 rw[World.cell?_alloc_lt _ _ _ hbl]at hr
 exact hr
end Vm
namespace Vm
open Go Go.Proofs Go.RowKit Go.Shelf
attribute [local go_sem] Oper.semAt_some
set_option maxHeartbeats 1000000
set_option maxRecDepth 100000
theorem infoO:(Try.prog.info? 57).map (fun i=>(i.zero,i.size,i.bytes))=some (some (.agg #[.int .i64 0,.int .i64 0,.int .i64 0,.bool false,.int .u64 0]),5,40):=by kernel_rfl
theorem unO:Try.prog.underlying 49=some (.slice 57):=by kernel_rfl
theorem cells5_new(w:World)(a b c d e:Value)(t:TypeId): ∀j u,[a,b,c,d,e][j]? =some u→(w.alloc (.cells #[a,b,c,d,e] t)).cell? ((⟨w.heap.size,0,none⟩:Addr).add j)=some u:=by
 intro j u h
 have:=cell_of_row _ _ j _ _ _ (heap_alloc_new w (.cells #[a,b,c,d,e] t))
 have e2:(⟨w.heap.size,0,none⟩:Addr).add j=⟨w.heap.size,j,none⟩:=by unfold Addr.add;split<;>simp_all
 rw[e2,this]
 simpa using h
def WalkEnd(w:World)(ws:List Int)(shs:List (Int×Int))(old:Bool)(bt:Option Nat)(K:Nat→World→Prop)(e:Ending)(W:World):Prop:=
 ∃v n xs,e= .returned (.tuple #[v,.int .i64 n])∧w.grownBy W bt∧W.ownsRow (w.heap.size+4) 57 5 v xs.length (obsC xs)∧((n=0∧endS ws shs old K xs W)∨((n=2∨n=3)∧xs= []∧walkW ws shs old=([],n)))
theorem walk_walk{w:World}{ws:List Int}{g o cap:Nat}{bt:Option Nat}{sv gv:Value}{shs:List (Int×Int)}{old:Bool}{K:Nat→World→Prop}(hw:Words w ws g o cap)
  (hsv:sv= .slice (some ⟨g,o,none⟩) ws.length cap∨(ws= []∧ ∃a c,sv= .slice a 0 c)) (hg:(ws≠ []→g<w.heap.size)∧g<w.heap.size+4∧g≠w.heap.size) (hgv:gv= .nilFunc∨ ∃f vs,gv= .func (.func f) #[] vs)
  (hbt: ∀r,bt=some r→r<w.heap.size) (hgt:some g≠bt) (hbeg:BegOk ws g o cap gv shs old bt K) (hK0:K 0 w)
  (hKG: ∀t A B row,K t A→A.grownBy B row→(∀r,row=some r→w.heap.size≤r)→K t B)
  (hKK: ∀bl base t A B,w.heap.size≤bl→w.heap.size≤base→K t A→KpW bl base A B→K t B):
  Calls Try.prog 124 #[sv,gv] w (WalkEnd w ws shs old bt K):=by
 refine(callsIn_wide (n:=5)).1 ?_
 have hmf: ∀(fn:Go.Fn) (first cap:Array Value) (w:World),(Instr.makeFunc fn first cap).run Try.prog w= .ok (.func fn first cap) w:=fun _ _ _ _=>rfl
 have hsf: ∃a n c,sv= .slice a n c:=by
  rcases hsv with rfl| ⟨_,a,c,rfl⟩
  ·exact⟨_,_,_,rfl⟩
  ·exact⟨_,_,_,rfl⟩
 refine callsIn_of_wp_marks Try.func124 rfl trivial ?_ rfl
 simp only[Try.ntmps124,List.size_toArray,List.length_cons,List.length_nil,Nat.reduceAdd,Nat.reduceSub,Array.replicate_succ,Array.replicate_zero,List.push_toArray,List.append_toArray,List.nil_append,List.cons_append]
 have he:=fun W=>each_walk W sv gv hsf hgv
 gi_wp2
 refine⟨trivial,(callsIn_wide.2 (he _)).mono ?_⟩
 rintro e w1 ⟨rfl,rfl⟩
 gi_wp2
 have hnx: ∀b:Nat,b<w.heap.size→((((w.alloc (Obj.cells #[.slice none 0 0] 49)).alloc (.cells #[.int .i64 0] 37)).alloc (.cells #[sv] 28)).alloc (.cells #[gv] 177)).heap[b]? =w.heap[b]? :=fun b hb=>by
  rw[Below.heap_alloc _ _ _ (by simp;omega),Below.heap_alloc _ _ _ (by simp;omega),Below.heap_alloc _ _ _ (by simp;omega),Below.heap_alloc _ _ _ hb]
 have b0:Boxed ((((w.alloc (Obj.cells #[.slice none 0 0] 49)).alloc (.cells #[.int .i64 0] 37)).alloc (.cells #[sv] 28)).alloc (.cells #[gv] 177)) w.heap.size 49 (.slice none 0 0):=(((Boxed.new w _ _).alloc _).alloc _).alloc _
 have b1:Boxed ((((w.alloc (Obj.cells #[.slice none 0 0] 49)).alloc (.cells #[.int .i64 0] 37)).alloc (.cells #[sv] 28)).alloc (.cells #[gv] 177)) (w.heap.size+1) 37 (.int .i64 0):=by
  have:=((Boxed.new (w.alloc (Obj.cells #[.slice none 0 0] 49)) 37 (.int .i64 0)).alloc (.cells #[sv] 28)).alloc (.cells #[gv] 177)
  rwa[World.size_alloc]at this
 have b2:Boxed ((((w.alloc (Obj.cells #[.slice none 0 0] 49)).alloc (.cells #[.int .i64 0] 37)).alloc (.cells #[sv] 28)).alloc (.cells #[gv] 177)) (w.heap.size+2) 28 sv:=by
  have:=(Boxed.new ((w.alloc (Obj.cells #[.slice none 0 0] 49)).alloc (.cells #[.int .i64 0] 37)) 28 sv).alloc (.cells #[gv] 177)
  simpa using this
 have b3:Boxed ((((w.alloc (Obj.cells #[.slice none 0 0] 49)).alloc (.cells #[.int .i64 0] 37)).alloc (.cells #[sv] 28)).alloc (.cells #[gv] 177)) (w.heap.size+3) 177 gv:=by
  have:=Boxed.new (((w.alloc (Obj.cells #[.slice none 0 0] 49)).alloc (.cells #[.int .i64 0] 37)).alloc (.cells #[sv] 28)) 177 gv
  simpa using this
 have hgr:w.grownBy ((((w.alloc (Obj.cells #[.slice none 0 0] 49)).alloc (.cells #[.int .i64 0] 37)).alloc (.cells #[sv] 28)).alloc (.cells #[gv] 177)) bt:=⟨rfl,rfl,rfl,by simp;omega,fun k hk _=>hnx k hk⟩
 have hsz:((((w.alloc (Obj.cells #[.slice none 0 0] 49)).alloc (.cells #[.int .i64 0] 37)).alloc (.cells #[sv] 28)).alloc (.cells #[gv] 177)).heap.size=w.heap.size+4:=by simp
 generalize hW0:(((w.alloc (Obj.cells #[.slice none 0 0] 49)).alloc (.cells #[.int .i64 0] 37)).alloc (.cells #[sv] 28)).alloc (.cells #[gv] 177)=W0 at*
 have hst:Stat6 ws g o cap sv (w.heap.size+2) (w.heap.size+3) (w.heap.size+4) w.heap.size bt gv W0:=by
  refine⟨⟨fun i x hx=> ?_,hw.le,hw.cap,hw.len,hw.u64⟩,hsv,b2,b3,fun hn=> ?_,⟨by omega,by omega,by omega,by omega⟩,⟨by omega,by omega,by omega⟩,hgt,?_,?_⟩
  ·rw[←hw.at_ i x hx]
   exact World.cell?_of_block (hnx g (hg.1 (fun e=>by rw[e]at hx;simp at hx)))
  ·obtain⟨x,hx⟩: ∃x,ws[0]? =some x:=by cases ws with|nil=>exact absurd rfl hn|cons x l=>exact⟨x,rfl⟩
   have:=hw.at_ 0 x hx
   rw[hnx g (hg.1 hn)]
   unfold World.cell? at this
   cases hh:w.heap[g]? with
   |none=>simp[hh]at this
   |some ob=>
    refine⟨ob,rfl,?_⟩
    rw[hh]at this
    cases ob<;>simp_all [Obj.isCells]
  ·intro e;have:=hbt _ e.symm;omega
  ·intro e;have:=hbt _ e.symm;omega
 have hK0':K 0 W0:=hKG 0 w W0 none hK0 ⟨hgr.os,hgr.tape,hgr.output,hgr.size,fun k hk _=>hnx k hk⟩ (by simp)
 have hseq:=each1_seq 4 hst (by omega) (fun e=>by have:=hbt _ e.symm;omega) hbeg hK0' (fun t A B hA hB=>hKG t A B none hA ⟨hB.os,hB.tape,hB.output,hB.size,fun k hk _=>hB.block k hk⟩ (by simp)) (fun t A B hA hB=>hKK _ _ t A B (Nat.le_refl _) (by omega) hA hB)
 refine wpIn_rangeFunc_P rfl (by omega) (gf:=129) (lb:= #[.pointer (some ⟨w.heap.size+2,0,none⟩),.pointer (some ⟨w.heap.size+3,0,none⟩)]) rfl trivial (enters_of Try.func129 (by kernel_rfl) rfl)
  hseq (fun r e=>by have:=hbt r e;omega) KpW.trans (fun W l o o' h1 h2 h3 _=>KpW.put o' h2 h3 (by omega)) (Below.refl _ _) (fun _=>rfl)
  (WIv w bt) (hsz▸WIv.own hbt) (fun pre W h=>h.rowIn) ⟨⟨_,b0,World.ownsRow_nil _ _ _ _⟩,b1,hgr,by omega⟩ ?hS
  (fun x a' W=> ∃Bx,w.heap.size+4≤Bx∧W.heap[Bx]? =some (.cells #[.int .i64 x.at_,.int .i64 x.size,.int .i64 x.ptrs,.bool x.gone,.int .u64 x.target] 57 (0,0))∧
   a'= {tmps:= #[sv,gv,undef,undef,.pointer (some ⟨w.heap.size,0,none⟩),.pointer (some ⟨w.heap.size+1,0,none⟩),.pointer (some ⟨Bx,0,none⟩),
    .func (.func 127) #[] #[.pointer (some ⟨w.heap.size,0,none⟩),.pointer (some ⟨w.heap.size+1,0,none⟩)],sv,gv,.func (.func 129) #[] #[.pointer (some ⟨w.heap.size+2,0,none⟩),.pointer (some ⟨w.heap.size+3,0,none⟩)],obA x,undef,undef,undef,undef,undef],defers:= []})
  ?hAx ?assign ?body ?done ?panic
 case hS=>
  rintro xs X Y row ⟨t,hK,hR⟩ hgr2 hrow
  exact⟨t,hKG t X Y row hK hgr2 fun r e=>(hrow r e).elim (fun e2=>by cases e2) (fun e2=>by omega),hR⟩
 case hAx=>
  rintro x a' s X Y row ⟨Bx,hB,hx,ha⟩ hgr2 hrow
  refine⟨Bx,hB,(hgr2.block Bx (heap_lt hx) fun e=> ?_).trans hx,ha⟩
  rcases hrow Bx e.symm with e2| ⟨_,o2,h2,h3⟩
  ·cases e2
  ·rw[hx]at h2;cases h2;cases h3
 case assign=>
  rintro l pre x W K2 hi hK2
  simp only[List.zip_cons_cons,Array.zip,obA]
  gi_wp2
  exact hK2 _ _ ((KeepsOthers.alloc W _).from _) (KpW.alloc _ (by have:=hi.size;omega)) ((WIv.own hbt).alloc _ hi) ⟨W.heap.size,hi.size,heap_alloc_new W _,rfl⟩
 case body=>
  rintro l pre x a' W hi ⟨Bx,hBx,hx,rfl⟩ hlen
  obtain⟨v,hv,hrow⟩:=hi.row
  obtain⟨i0,hin,hz0,hz1,hz2⟩:=info_parts infoO
  obtain⟨va,vc,rfl⟩:=own_form hrow
  have c1:=hv.cell
  have c2:=hv.frozen
  have d0:W.cell? ⟨Bx,0,none⟩=some (.int .i64 x.at_):=by rw[cell_of_row _ _ _ _ _ _ hx];rfl
  have d1:W.cell? ⟨Bx,1,none⟩=some (.int .i64 x.size):=by rw[cell_of_row _ _ _ _ _ _ hx];rfl
  have d2:W.cell? ⟨Bx,2,none⟩=some (.int .i64 x.ptrs):=by rw[cell_of_row _ _ _ _ _ _ hx];rfl
  have d3:W.cell? ⟨Bx,3,none⟩=some (.bool x.gone):=by rw[cell_of_row _ _ _ _ _ _ hx];rfl
  have d4:W.cell? ⟨Bx,4,none⟩=some (.int .u64 x.target):=by rw[cell_of_row _ _ _ _ _ _ hx];rfl
  have hpl:pre.length≤1000000:=Nat.le_trans (Nat.le_of_lt hlen) hw.len
  have hszW:=hi.size
  have HA:=fun tmp w1 v'=>WIv.appended (W:=W) (w1:=w1) (x:=x) (v':=v') (tmp:=tmp) hbt hi hv hrow
  gi_wp2_with (gi_at_builtin;refine wpListIn_append_own_at _ rfl _ _ 49 rfl (w.heap.size+4) 57 i0 _ 5 40 unO hin hz0 hz1 hz2 rfl (by decide) _ _ _ rfl (hrow.alloc _) ⟨W.heap.size,0,none⟩ 1 1 (obC x) rfl rfl (cells5_new _ _ _ _ _ _ _) (by simp[obC,Value.oneCell']) (by unfold maxLen;omega) (by omega) (by simp;omega) ?_;intro v' w1 hown' hgrow _ hat;obtain⟨g',cap',rfl⟩:=ownsRow_succ hown';obtain⟨e1,e2,e3,e4⟩:=HA _ _ _ hown' hgrow hat;have e5:=e1.cell;have e6:=e1.frozen)
  rw[hsz]
  exact⟨e2,e3,e4⟩
 case done=>
  rintro D xs W hD hS hi hD2
  obtain⟨v,hv,hrow⟩:=hi.row
  obtain⟨va,vc,rfl⟩:=own_form hrow
  have c1:=hv.cell
  have c2:=hv.frozen
  have c3:=hi.e.cell
  have c4:=hi.e.frozen
  rw[hsz]at hD
  gi_wp2
  have hDX:((W.setCell ⟨w.heap.size,0,none⟩ (.slice va xs.length vc)).setCell ⟨w.heap.size+1,0,none⟩ (.int .i64 0)).heap[D]? =some (.deferred (some [])):=by
   rw[Below.heap_setCell _ _ _ _ (by show D≠w.heap.size+1;omega),Below.heap_setCell _ _ _ _ (by show D≠w.heap.size;omega)]
   exact hD2
  have f0:Boxed ((W.setCell ⟨w.heap.size,0,none⟩ (.slice va xs.length vc)).setCell ⟨w.heap.size+1,0,none⟩ (.int .i64 0)) w.heap.size 49 (.slice va xs.length vc):=
   (Below.heap_setCell _ _ _ _ (by show w.heap.size≠w.heap.size+1;omega)).trans (hv.set _)
  have f1:Boxed ((W.setCell ⟨w.heap.size,0,none⟩ (.slice va xs.length vc)).setCell ⟨w.heap.size+1,0,none⟩ (.int .i64 0)) (w.heap.size+1) 37 (.int .i64 0):=
   Boxed.set _ (show Boxed (W.setCell ⟨w.heap.size,0,none⟩ (.slice va xs.length vc)) (w.heap.size+1) 37 (.int .i64 0)from(Below.heap_setCell _ _ _ _ (by show w.heap.size+1≠w.heap.size;omega)).trans hi.e)
  have g1:=grownBy_setCell' W w.heap.size (.slice va xs.length vc)
  have g2:=grownBy_setCell' (W.setCell ⟨w.heap.size,0,none⟩ (.slice va xs.length vc)) (w.heap.size+1) (.int .i64 0)
  have hlow:=hrow.lt
  have r2:=(hrow.kept g1 (by
   cases hb:(Value.slice va xs.length vc).ownBlock with
   |none=>exact .inl rfl
   |some b=>exact .inr fun e=>by have:=(hlow b hb).1;cases e;omega)).kept g2 (by
   cases hb:(Value.slice va xs.length vc).ownBlock with
   |none=>exact .inl rfl
   |some b=>exact .inr fun e=>by have:=(hlow b hb).1;cases e;omega)
  generalize hW2:(W.setCell ⟨w.heap.size,0,none⟩ (.slice va xs.length vc)).setCell ⟨w.heap.size+1,0,none⟩ (.int .i64 0)=W2 at*
  have g3:=grownBy_putObj' W2 D (.deferred none)
  have f0':Boxed (W2.putObj D (.deferred none)) w.heap.size 49 (.slice va xs.length vc):=(World.putObj_heap_other (by omega)).trans f0
  have f1':Boxed (W2.putObj D (.deferred none)) (w.heap.size+1) 37 (.int .i64 0):=(World.putObj_heap_other (by omega)).trans f1
  have k0:=f0'.cell
  have k1:=f1'.cell
  refine⟨by simp,.inl ⟨D,_,rfl,run_takeDeferred hDX,?_⟩⟩
  refine⟨by simp,.inr ⟨fun h=>(by cases h),.func 127,_,127, #[.pointer (some ⟨w.heap.size,0,none⟩),.pointer (some ⟨w.heap.size+1,0,none⟩)],rfl,by simp[go_sem],fun _ _=>trivial,?_⟩⟩
  refine(catch_idle _ _ _ _).mono ?_
  rintro e u' w'' ⟨rfl,rfl,rfl⟩
  refine⟨.tuple #[.slice va xs.length vc,.int .i64 0],by simp[results,Try.results124,go_sem,k0,k1],?_⟩
  obtain⟨t,hK,hR⟩:=hS
  refine⟨_,0,xs,rfl,grown_row (grown_row (grown_row hi.gr g1 fun r e=> .inr ?_) g2 fun r e=> .inr ?_) g3 fun r e=> .inr ?_,ownsRow_putObj r2 _ hDX rfl,.inl ⟨rfl,t,hKG t _ _ _ (hKG t _ _ _ (hKG t _ _ _ hK g1 fun r e=> ?_) g2 fun r e=> ?_) g3 fun r e=> ?_,hR⟩⟩
  all_goals (cases e;omega)
 case panic=>
  rintro D chain pre W hD ⟨e,he2,rfl,hWk⟩ hi hD2
  rw[hsz]at hD
  obtain⟨v,hv,hrow⟩:=hi.row
  have g3:=grownBy_putObj' W D (.deferred none)
  have f0':Boxed (W.putObj D (.deferred none)) w.heap.size 49 v:=(World.putObj_heap_other (by omega)).trans hv
  have f1':Boxed (W.putObj D (.deferred none)) (w.heap.size+1) 37 (.int .i64 0):=(World.putObj_heap_other (by omega)).trans hi.e
  have hg4:w.grownBy (W.putObj D (.deferred none)) bt:=grown_row hi.gr g3 fun r e=> .inr (by cases e;omega)
  refine⟨by simp,.inl ⟨D,_,rfl,run_takeDeferred hD2,?_⟩⟩
  refine⟨by simp,.inr ⟨fun h=>(by cases h),.func 127,_,127, #[.pointer (some ⟨w.heap.size,0,none⟩),.pointer (some ⟨w.heap.size+1,0,none⟩)],rfl,by simp[go_sem],fun _ _=>trivial,?_⟩⟩
  refine(catch_panicking _ w.heap.size (w.heap.size+1) e _ _ _ f0' f1' (by omega)).mono ?_
  rintro e' u' w'' ⟨rfl,rfl,h0,h1,⟨hs2,hk⟩,hos,htape,hout⟩
  have k0:=h0.cell
  have k1:=h1.cell
  refine⟨.tuple #[.slice none 0 0,.int .i64 e],by simp[results,Try.results124,go_sem,k0,k1],?_⟩
  refine⟨_,e,[],rfl,⟨hos.trans hg4.os,htape.trans hg4.tape,hout.trans hg4.output,Nat.le_trans hg4.size hs2,fun k hk2 hn=> ?_⟩,World.ownsRow_nil _ _ _ _,.inr ⟨he2,rfl,hWk⟩⟩
  exact(hk k (Nat.lt_of_lt_of_le hk2 hg4.size) (by omega) (by omega)).trans (hg4.block k hk2 hn)
end Vm
namespace Vm
open Go Go.Proofs Go.RowKit Go.Shelf
set_option maxHeartbeats 1000000
set_option maxRecDepth 100000
theorem rd_intv{w:World}{G:Nat→Prop}{k:IntKind}{n:Int}{v:Value}(r:Rd w G (.int k n) v):v= .int k n:=by cases r;rfl
theorem words_of_rd{w:World}{G:Nat→Prop}{ws:List Int}{v:Value}(r:Rd w G (.sl (ws.map vu)) v)(hG: ∀b,G b→b<w.heap.size)(hl:ws.length≤1000000)(hu: ∀x∈ws,U64 x)(q:Nat):
  ∃g o cap,Words w ws g o cap∧(v= .slice (some ⟨g,o,none⟩) ws.length cap∨(ws= []∧ ∃a c,v= .slice a 0 c))∧((ws≠ []→g<w.heap.size)∧(g<w.heap.size∨g=q)):=by
 generalize hL:ws.map vu=L at r
 cases r with
 |nil a cap hc=>
  have:ws= []:=List.map_eq_nil_iff.1 hL
  subst this
  exact⟨q,0,0,⟨fun i x hx=>by simp at hx,by simp,by unfold maxLen;omega,by simp,by simp⟩,.inr ⟨rfl,a,cap,rfl⟩,fun h=>absurd rfl h,.inr rfl⟩
 |sl _ b o cap k vs h1 h2 h3 h4 h5 h6=>
  subst hL
  simp only[List.length_map]at h1 h5⊢
  refine⟨b,o,cap,⟨fun i x hx=> ?_,h1,h2,hl,hu⟩,.inl rfl,fun _=>hG b h3,.inl (hG b h3)⟩
  have hm:(ws.map vu)[i]? =some (vu x):=by rw[List.getElem?_map,hx];rfl
  have hk:k=1:=((h4 _ (List.mem_of_getElem? hm)).1).symm
  subst hk
  have hi:i<ws.length:=(List.getElem?_eq_some_iff.1 hx).1
  rw[h5 i (by omega)]
  have:=h6 i (vu x) (by have:=flat_at h4 hm 0 (by omega);simpa using this)
  rw[rd_intv this]
theorem shps_of_rd{w:World}{G:Nat→Prop}{shs:List (Int×Int)}{v:Value}(r:Rd w G (.sl (shs.map shP)) v)(hG: ∀b,G b→b<w.heap.size):
  (∃g o cap,v= .slice (some ⟨g,o,none⟩) shs.length cap∧shs.length≤cap∧cap≤maxLen∧g<w.heap.size∧ ∀(i:Nat) (x:Int×Int),shs[i]? =some x→w.cell? ⟨g,o+i*2,none⟩=some (.int .i64 x.1)∧w.cell? ⟨g,o+i*2+1,none⟩=some (.int .i64 x.2))∨
  (∃a cap,v= .slice a 0 cap∧shs= []):=by
 generalize hL:shs.map shP=L at r
 cases r with
 |nil a cap hc=>
  have:shs= []:=List.map_eq_nil_iff.1 hL
  exact .inr ⟨a,cap,rfl,this⟩
 |sl _ b o cap k vs h1 h2 h3 h4 h5 h6=>
  subst hL
  simp only[List.length_map]at h1 h5⊢
  refine .inl ⟨b,o,cap,rfl,h1,h2,hG b h3,fun i x hx=> ?_⟩
  have hm:(shs.map shP)[i]? =some (shP x):=by rw[List.getElem?_map,hx];rfl
  have hk:k=2:=((h4 _ (List.mem_of_getElem? hm)).1).symm
  subst hk
  have hi:i<shs.length:=(List.getElem?_eq_some_iff.1 hx).1
  have e0:=h6 (i*2) (vi x.1) (by have:=flat_at h4 hm 0 (by omega);simpa using this)
  have e1:=h6 (i*2+1) (vi x.2) (by have:=flat_at h4 hm 1 (by omega);simpa using this)
  refine⟨?_,?_⟩
  ·rw[h5 (i*2) (by omega)]
   rw[rd_intv e0]
  ·rw[Nat.add_assoc,h5 (i*2+1) (by omega)]
   rw[rd_intv e1]
theorem obs_cells{w:World}{G:Nat→Prop}: ∀(l:List Ob) (i:Nat) (c:V),(flat (l.map obV))[i]? =some c→Rd w G c ((obsC l).getD i undef)
 | [],i,c,h=>by simp[flat]at h
 |x::l,i,c,h=>by
  rw[List.map_cons,flat_cons]at h
  have e:obsC (x::l)=obC x++obsC l:=by simp[obsC]
  rw[e]
  by_cases hi:i<5
  ·match i,hi with
   |0,_=>simp[obV,V.cells]at h;subst h;exact .int _ _
   |1,_=>simp[obV,V.cells]at h;subst h;exact .int _ _
   |2,_=>simp[obV,V.cells]at h;subst h;exact .int _ _
   |3,_=>simp[obV,V.cells]at h;subst h;exact .bool _
   |4,_=>simp[obV,V.cells]at h;subst h;exact .int _ _
  ·have h2:(flat (l.map obV))[i-5]? =some c:=by
    rw[List.getElem?_append_right (by simp[obV,V.cells];omega)]at h
    simpa[obV,V.cells]using h
   have:=obs_cells (w:=w) (G:=G) l (i-5) c h2
   have hg:(obC x++obsC l).getD i undef=(obsC l).getD (i-5) undef:=by
    simp only[List.getD_eq_getElem?_getD]
    rw[List.getElem?_append_right (by simp[obC];omega)]
    simp[obC]
   rw[hg]
   exact this
theorem obs_fit(l:List Ob): ∀x∈l.map obV,V.fits 5 x:=by
 intro x hx
 obtain⟨o,_,rfl⟩:=List.mem_map.1 hx
 exact⟨rfl,fun c hc=>by simp[obV,V.cells]at hc;rcases hc with rfl|rfl|rfl|rfl|rfl<;>rfl⟩
theorem obs_rd{w:World}{G:Nat→Prop}{B:Nat}{e:TypeId}{v:Value}{l:List Ob}(h:w.ownsRow B e 5 v l.length (obsC l))(hG: ∀c,B≤c→c<w.heap.size→G c):Rd w G (.sl (l.map obV)) v:=by
 have hlen:(obsC l).length=l.length*5:=h.1
 rcases h.2 with ⟨rfl,h0⟩ | ⟨g,cap,cur,rfl,hb,hg,hnc,hcm,_⟩
 ·have:l= []:=List.length_eq_zero_iff.1 h0
  subst this
  exact .nil _ _ (by unfold maxLen;omega)
 ·have:=Rd.sl (w:=w) (G:=G) (l.map obV) g 0 cap 5 (fun i=>(obsC l).getD i undef) (by simpa using hnc) hcm (hG g hb (heap_lt hg)) (obs_fit l) (fun i hi=>by
    have hi':i< (obsC l).length:=by rw[hlen];simpa using hi
    rw[Nat.zero_add,h.cellAt i (by rw[←hlen];exact hi')]
    simp[hi']) (fun i c hc=>obs_cells l i c hc)
  simpa using this
theorem walk_e{ws:List Int}{shs:List (Int×Int)}{old:Bool}{K:Nat→World→Prop}{n:Int}{xs:List Ob}{W:World}(h0:shs= [])(h:(n=0∧endS ws shs old K xs W)∨((n=2∨n=3)∧xs= []∧walkW ws shs old=([],n))):walkW ws shs old=(xs,n):=by
 subst h0
 rcases h with ⟨rfl,t,_,h⟩ | ⟨_,rfl,h⟩
 ·rw[h,if_neg (by simp)]
 ·exact h
theorem Walk_ok:WalkOk:=by
 intro ws hl hu
 refine⟨by kernel_rfl,fun w G vs hG hsz hvs=> ?_⟩
 have r0:=hvs 0 _ rfl
 obtain⟨⟨l⟩⟩:=vs
 ·simp at hsz
 rename_i v0 l
 cases l with
 |cons _ _=>simp at hsz
 |nil=>
  simp at r0
  obtain⟨g,o,cap,hw,hsv,hg1,hg2⟩:=words_of_rd r0 hG hl hu (w.heap.size+1)
  have hk:=walk_walk (w:=w) (shs:= []) (old:=false) (bt:=none) (K:=fun t _=>t=0) hw hsv ⟨hg1,by omega,by omega⟩ (.inl rfl) (by simp) (by simp) beg_nil rfl (fun t A B row h _ _=>h) (fun bl base t A B _ _ h _=>h)
  obtain⟨sa,sn,sc,rfl⟩: ∃a n c,v0= .slice a n c:=by
   rcases hsv with rfl| ⟨_,a,c,rfl⟩
   ·exact⟨_,_,_,rfl⟩
   ·exact⟨_,_,_,rfl⟩
  have HK:=Lib.hid hk
  clear hk hw hsv r0 hvs
  go_enter Try.func112,Try.ntmps112
  go_wp2_with (go_at_call 124;refine HK.out.mono ?_;rintro e w1 ⟨v,n,xs,rfl,hgr,hrow,hE⟩;have HR:=Lib.hid (And.intro hgr (And.intro hrow hE));clear hgr hrow hE)
  obtain⟨hgr,hrow,hE⟩:=HR.out
  have hW:=walk_e rfl hE
  refine bodyPost_ret (v:= .tuple #[v,.int .i64 n]) (by simp[results,Try.results112,go_sem]) rfl ⟨_,rfl,(Below.refl _ w).grown hgr (Nat.le_refl _) (fun j e=>by cases e),?_⟩
  rw[hW]
  refine .tup _ _ rfl ?_
  intro i y hy
  match i,hy with
  |0,hy=>cases hy;exact obs_rd hrow fun c h1 h2=> .inr ⟨by omega,h2⟩
  |1,hy=>cases hy;exact .int _ _
theorem KpW.cell{bl base:Nat}{A B:World}(h:KpW bl base A B){k i:Nat}{c:Value}(hc:A.cell? ⟨k,i,none⟩=some c)(hk:k<base)(hn:k≠bl):B.cell? ⟨k,i,none⟩=some c:=by
 have hc2:=hc
 unfold World.cell? at hc
 cases hh:A.heap[k]? with
 |none=>simp[hh]at hc
 |some ob=>
  have hob:ob.isCells=true:=by
   rw[hh]at hc
   cases ob<;>simp_all [Obj.isCells]
  rw[←hc2]
  exact World.cell?_of_block (a:=⟨k,i,none⟩) ((h.same k ob hh hob hn (.inl hk)).trans hh.symm)
theorem KOld.grown{shs:List (Int×Int)}{bt bs t n:Nat}{v:Value}{A B:World}{row:Option Nat}(h:KOld shs bt bs v t A)(hg:A.grownBy B row)(hbt:bt<n)(hbs:bs<n)(hv:shs≠ []→ ∀g o cap,v= .slice (some ⟨g,o,none⟩) shs.length cap→g<n)(hr: ∀r,row=some r→n≤r):KOld shs bt bs v t B:=by
 obtain⟨h1,h2,h3⟩:=h
 exact⟨(hg.block _ (heap_lt h1) (fun e=>by have:=hr _ e.symm;omega)).trans h1,h2.grown hg (fun e=>by have:=hr _ e.symm;omega) (fun hn g o cap e e2=>by have:=hr _ e2.symm;have:=hv hn _ _ _ e;omega),h3⟩
theorem KOld.kp{shs:List (Int×Int)}{bt bs t n bl base:Nat}{v:Value}{A B:World}(h:KOld shs bt bs v t A)(hg:KpW bl base A B)(hbt:bt<n)(hbs:bs<n)(hv:shs≠ []→ ∀g o cap,v= .slice (some ⟨g,o,none⟩) shs.length cap→g<n)(h1:n≤bl)(h2:n≤base):KOld shs bt bs v t B:=by
 obtain⟨k1,⟨k2,k3⟩,k4⟩:=h
 refine⟨hg.same _ _ k1 rfl (by omega) (.inl (by omega)),⟨hg.same _ _ k2 rfl (by omega) (.inl (by omega)),?_⟩,k4⟩
 rcases k3 with ⟨g,o,cap,rfl,a1,a2,a3,a4⟩ |h
 ·refine .inl ⟨g,o,cap,rfl,a1,a2,Nat.lt_of_lt_of_le a3 hg.size,fun i x hx=> ?_⟩
  have:=hv (fun e=>by rw[e]at hx;simp at hx) _ _ _ rfl
  exact⟨hg.cell (a4 i x hx).1 (by omega) (by omega),hg.cell (a4 i x hx).2 (by omega) (by omega)⟩
 ·exact .inr h
theorem Words.below2{w W:World}{ws:List Int}{g o cap:Nat}(h:Words w ws g o cap)(hs:ws≠ []→g<w.heap.size)(hb:Below w.heap.size w W):Words W ws g o cap:=
 ⟨fun i x hx=>by rw[hb.cell (p:=⟨g,o+i,none⟩) (hs (fun e=>by rw[e]at hx;simp at hx))];exact h.at_ i x hx,h.le,h.cap,h.len,h.u64⟩
theorem WalkOld_ok:WalkOldOk:=by
 intro ws shs hl hsl hu hsh
 refine⟨by kernel_rfl,fun w G vs hG hsz hvs=> ?_⟩
 have r0:=hvs 0 _ rfl
 have r1:=hvs 1 _ rfl
 obtain⟨⟨l⟩⟩:=vs
 ·simp at hsz
 rename_i v0 l
 cases l with
 |nil=>simp at hsz
 |cons v1 l=>
 cases l with
 |cons _ _=>simp at hsz
 |nil=>
  simp at r0 r1
  obtain⟨g,o,cap,hw,hsv,hg1,hg2⟩:=words_of_rd r0 hG hl hu (w.heap.size+3)
  have hv1:=shps_of_rd r1 hG
  obtain⟨sa,sn,sc,rfl⟩: ∃a n c,v0= .slice a n c:=by
   rcases hsv with rfl| ⟨_,a,c,rfl⟩
   ·exact⟨_,_,_,rfl⟩
   ·exact⟨_,_,_,rfl⟩
  obtain⟨ta,tc,rfl⟩: ∃a c,v1= .slice a shs.length c:=by
   rcases hv1 with ⟨_,_,_,rfl,_⟩ | ⟨a,c,rfl,rfl⟩
   ·exact⟨_,_,rfl⟩
   ·exact⟨_,_,rfl⟩
  have b0:((w.alloc (.cells #[.slice ta shs.length tc] 154)).alloc (.cells #[.int .i64 0] 3)).heap[w.heap.size]? =some (.cells #[.slice ta shs.length tc] 154 (0,0)):=(Below.heap_alloc _ _ _ (by simp)).trans (heap_alloc_new w _)
  have b1:((w.alloc (.cells #[.slice ta shs.length tc] 154)).alloc (.cells #[.int .i64 0] 3)).heap[w.heap.size+1]? =some (.cells #[.int .i64 0] 3 (0,0)):=by
   have:=heap_alloc_new (w.alloc (.cells #[.slice ta shs.length tc] 154)) (.cells #[.int .i64 0] 3)
   simpa using this
  have hB1:Below w.heap.size w ((w.alloc (.cells #[.slice ta shs.length tc] 154)).alloc (.cells #[.int .i64 0] 3)):=((Below.refl _ w).alloc (Nat.le_refl _) _).alloc (by simp) _
  have hsz1:((w.alloc (.cells #[.slice ta shs.length tc] 154)).alloc (.cells #[.int .i64 0] 3)).heap.size=w.heap.size+2:=by simp
  have hgb:shs≠ []→ ∀g o cap,Value.slice ta shs.length tc= .slice (some ⟨g,o,none⟩) shs.length cap→g<w.heap.size:=by
   intro hn g o cap e
   rcases hv1 with ⟨g1,o1,c1,e1,_,_,h4,_⟩ | ⟨_,_,_,h⟩
   ·rw[e]at e1;cases e1;exact h4
   ·exact absurd h hn
  have hk:Calls Try.prog 124 #[.slice sa sn sc,.func (.func 125) #[] #[.pointer (some ⟨w.heap.size+1,0,none⟩),.pointer (some ⟨w.heap.size,0,none⟩)]] ((w.alloc (.cells #[.slice ta shs.length tc] 154)).alloc (.cells #[.int .i64 0] 3))
    (WalkEnd ((w.alloc (.cells #[.slice ta shs.length tc] 154)).alloc (.cells #[.int .i64 0] 3)) ws shs true (some (w.heap.size+1)) (KOld shs (w.heap.size+1) w.heap.size (.slice ta shs.length tc))):=by
   generalize hW1:(w.alloc (.cells #[.slice ta shs.length tc] 154)).alloc (.cells #[.int .i64 0] 3)=W1 at*
   have hgb1:shs≠ []→ ∀g o cap,Value.slice ta shs.length tc= .slice (some ⟨g,o,none⟩) shs.length cap→g<W1.heap.size:=fun hn g o cap e=>by have:=hgb hn g o cap e;omega
   refine walk_walk (hw.below2 hg1 hB1) hsv ⟨fun h=>by have:=hg1 h;omega,by omega,by omega⟩ (.inr ⟨_,_,rfl⟩) (fun r e=>by cases e;omega) (fun e=>by cases e;omega) (beg_old hsl (by omega) (fun hn g o cap e=>by have:=hgb hn g o cap e;omega)) ⟨b1,⟨b0,?_⟩,by omega⟩ (fun t A B row h hg hr=>h.grown hg (n:=W1.heap.size) (by omega) (by omega) hgb1 hr) (fun bl base t A B h1 h2 h hk=>h.kp hk (n:=W1.heap.size) (by omega) (by omega) hgb1 h1 h2)
   rcases hv1 with ⟨g1,o1,c1,e1,a1,a2,a3,a4⟩ | ⟨a,c,e1,h⟩
   ·exact .inl ⟨g1,o1,c1,e1,a1,a2,by omega,fun i x hx=>⟨(hB1.cell (p:=⟨g1,o1+i*2,none⟩) a3).trans (a4 i x hx).1,(hB1.cell (p:=⟨g1,o1+i*2+1,none⟩) a3).trans (a4 i x hx).2⟩⟩
   ·exact .inr ⟨a,c,e1,h⟩
  have hrd: ∀w1 v n (xs:List Ob),(v= .slice none 0 0∧xs= []∨w1.ownsRow (w.heap.size+6) 57 5 v xs.length (obsC xs))→walkW ws shs true=(xs,n)→Rd w1 (fun b=>true=false∧G b∨w.heap.size≤b∧b<w1.heap.size) (.tup [.sl ((walkW ws shs true).1.map obV),vi (walkW ws shs true).2]) (.tuple #[v,.int .i64 n]):=by
   intro w1 v n xs hrow hW
   rw[hW]
   refine .tup _ _ rfl ?_
   intro i y hy
   match i,hy with
   |0,hy=>
    cases hy
    rcases hrow with ⟨rfl,rfl⟩ |hrow
    ·exact .nil _ _ (by unfold maxLen;omega)
    ·exact obs_rd hrow fun c h1 h2=> .inr ⟨by omega,h2⟩
   |1,hy=>cases hy;exact .int _ _
  have hk2:Calls Try.prog 124 #[.slice sa sn sc,.func (.func 125) #[] #[.pointer (some ⟨w.heap.size+1,0,none⟩),.pointer (some ⟨w.heap.size,0,none⟩)]] ((w.alloc (.cells #[.slice ta shs.length tc] 154)).alloc (.cells #[.int .i64 0] 3)) fun e w1=>
    (∃(v:Value) (t:Nat),e= .returned (.tuple #[v,.int .i64 0])∧w1.cell? ⟨w.heap.size+1,0,none⟩=some (.int .i64 t)∧w1.cell? ⟨w.heap.size,0,none⟩=some (.slice ta shs.length tc)∧(t:Int) <shs.length∧Hid (Below w.heap.size w w1∧Rd w1 (fun b=>true=false∧G b∨w.heap.size≤b∧b<w1.heap.size) (.tup [.sl ((walkW ws shs true).1.map obV),vi (walkW ws shs true).2]) (.tuple #[.slice none 0 0,.int .i64 3])))∨
    (∃(v:Value) (t:Nat),e= .returned (.tuple #[v,.int .i64 0])∧w1.cell? ⟨w.heap.size+1,0,none⟩=some (.int .i64 t)∧w1.cell? ⟨w.heap.size,0,none⟩=some (.slice ta shs.length tc)∧ ¬(t:Int) <shs.length∧Hid (Below w.heap.size w w1∧Rd w1 (fun b=>true=false∧G b∨w.heap.size≤b∧b<w1.heap.size) (.tup [.sl ((walkW ws shs true).1.map obV),vi (walkW ws shs true).2]) (.tuple #[v,.int .i64 0])))∨
    (∃(v:Value) (n:Int),e= .returned (.tuple #[v,.int .i64 n])∧ ¬n=0∧Hid (Below w.heap.size w w1∧Rd w1 (fun b=>true=false∧G b∨w.heap.size≤b∧b<w1.heap.size) (.tup [.sl ((walkW ws shs true).1.map obV),vi (walkW ws shs true).2]) (.tuple #[.slice none 0 0,.int .i64 n]))):=by
   refine hk.mono ?_
   rintro e w1 ⟨v,n,xs,rfl,hgr,hrow,hE⟩
   rw[hsz1]at hrow
   have hB:Below w.heap.size w w1:=hB1.trans ((Below.refl _ _).grown hgr (by rw[hsz1];omega) (fun j e=>by cases e;omega))
   rcases hE with ⟨rfl,t,⟨hb,hs,ht⟩,hWk⟩ | ⟨hn,rfl,hWk⟩
   ·have q1:w1.cell? ⟨w.heap.size+1,0,none⟩=some (.int .i64 t):=by rw[cell_of_row _ _ _ _ _ _ hb];rfl
    have q2:w1.cell? ⟨w.heap.size,0,none⟩=some (.slice ta shs.length tc):=by rw[cell_of_row _ _ _ _ _ _ hs.box];rfl
    by_cases hlt:t<shs.length
    ·rw[if_pos hlt]at hWk
     exact .inl ⟨v,t,rfl,q1,q2,by omega,Lib.hid ⟨hB,hrd w1 _ _ [] (.inl ⟨rfl,rfl⟩) hWk⟩⟩
    ·rw[if_neg hlt]at hWk
     exact .inr (.inl ⟨v,t,rfl,q1,q2,by omega,Lib.hid ⟨hB,hrd w1 _ _ xs (.inr hrow) hWk⟩⟩)
   ·exact .inr (.inr ⟨v,n,rfl,by omega,Lib.hid ⟨hB,hrd w1 _ _ [] (.inl ⟨rfl,rfl⟩) hWk⟩⟩)
  have HK:=Lib.hid hk2
  clear hw hsv r0 r1 hvs hv1 hg1 hg2 hk hk2 hB1 b0 b1 hgb hsz1 hrd
  go_enter Try.func114,Try.ntmps114
  have hmf: ∀(fn:Go.Fn) (first cap:Array Value) (w:World),(Instr.makeFunc fn first cap).run Try.prog w= .ok (.func fn first cap) w:=fun _ _ _ _=>rfl
  go_wp2_with (go_at_call 124;refine HK.out.mono ?_;rintro e w1 (⟨v,t,rfl,q1,q2,hlt,HF⟩ | ⟨v,t,rfl,q1,q2,hlt,HF⟩ | ⟨v,n,rfl,hn,HF⟩))
  ·refine bodyPost_ret (v:= .tuple #[.slice none 0 0,.int .i64 3]) (by simp[results,Try.results114,go_sem]) rfl ⟨_,rfl,HF.out.1,HF.out.2⟩
  ·refine bodyPost_ret (v:= .tuple #[v,.int .i64 0]) (by simp[results,Try.results114,go_sem]) rfl ⟨_,rfl,HF.out.1,HF.out.2⟩
  ·refine bodyPost_ret (v:= .tuple #[.slice none 0 0,.int .i64 n]) (by simp[results,Try.results114,go_sem]) rfl ⟨_,rfl,HF.out.1,HF.out.2⟩
end Vm
namespace Vm
open Go Go.Proofs Go.RowKit
set_option maxHeartbeats 1000000
set_option maxRecDepth 100000
end Vm
end
section
namespace Vm
open Go
open Go.Proofs
set_option maxRecDepth 100000
def p5:Fn:=⟨33,[0,1,2,3,4,5,6,7,8,14,15,16,17,32,18,19,20,93,92,94,22,91,108,112,111,113,24,110,25,26,27,28,136],
(.seq
(.reg ⟨[],[],[(7,.m [(.fld (.sz (.s 0) 10) 0),(.fld (.sz (.s 0) 10) 1),(.fld (.sz (.s 0) 10) 2),(.fld (.sz (.s 0) 10) 3),(.fld (.sz (.s 0) 10) 4),(.fld (.sz (.s 0) 10) 5),(.fld (.sz (.s 0) 10) 6),(.fld (.sz (.s 0) 10) 7),(.fld (.sz (.s 0) 10) 8),(.fld (.sz (.s 0) 10) 9)]),(8,.m [(.fld (.sz (.s 1) 7) 0),(.fld (.sz (.s 1) 7) 1),(.fld (.sz (.s 1) 7) 2),(.fld (.sz (.s 1) 7) 3),(.fld (.sz (.s 1) 7) 4),(.fld (.sz (.s 1) 7) 5),(.fld (.sz (.s 1) 7) 6)]),(9,.v (.c (.bool false)))]⟩)
(.seq
(.reg ⟨[.call 33 [] (.id 26) false false []],[],[(10,.v (.s 33))]⟩)
(.seq
(.reg ⟨[],[],[(11,.m [(.fld (.mm 7 0 10) 0),(.fld (.mm 7 0 10) 1),(.fld (.mm 7 0 10) 2),(.fld (.mm 7 0 10) 3),(.fld (.mm 7 0 10) 4),(.fld (.mm 7 0 10) 5),(.fld (.mm 7 0 10) 6),(.fld (.mm 7 0 10) 7),(.fld (.mm 7 0 10) 8),(.fld (.mm 7 0 10) 9)])]⟩)
(.seq
(.seq
(.reg ⟨[],[],[(12,.v (.c (.int .i64 (1))))]⟩)
(.block 0
 (.loop [0,1,2,3,4,5,6,7,8,9,10,11,12]
  (.seq
  (.seq
  (.reg ⟨[],[],[(13,.v (.bin .leq (.s 12) (.c (.int .i64 (4)))))]⟩)
  (.cond (.s 13)
   .skip
   (.exit 0)))
  (.seq
  (.block 1
   (.reg ⟨[.call 34 [] (.id 28) false false [(.mm 11 0 10),(.s 12)],.call 35 [] (.id 28) false false [(.mm 11 0 10),(.s 12)],.call 36 [] (.id 27) false false [(.mm 11 0 10),(.s 12),(.slc (.s 34) (.c (.int .i64 (0))) (.mn (.len (.s 35)) (.c (.int .i64 (12)))) 1)]],[],[(11,.m [(.fld (.sz (.s 36) 10) 0),(.fld (.sz (.s 36) 10) 1),(.fld (.sz (.s 36) 10) 2),(.fld (.sz (.s 36) 10) 3),(.fld (.sz (.s 36) 10) 4),(.fld (.sz (.s 36) 10) 5),(.fld (.sz (.s 36) 10) 6),(.fld (.sz (.s 36) 10) 7),(.fld (.sz (.s 36) 10) 8),(.fld (.sz (.s 36) 10) 9)])]⟩))
  (.reg ⟨[],[],[(12,.v (.bin .add (.s 12) (.c (.int .i64 (1)))))]⟩))))))
(.seq
(.reg ⟨[],[],[(11,.m [(.m 11 0),(.m 11 1),(.m 11 2),(.m 11 3),(.m 11 4),(.m 11 5),(.m 11 6),(.m 11 7),(.m 11 8),(.slc (.m 7 9) (.c (.int .i64 (0))) (.mn (.len (.m 7 9)) (.c (.int .i64 (20)))) 1)])]⟩)
(.seq
(.reg ⟨[.call 37 [] (.id 16) false false [(.mm 8 0 7)]],[],[(14,.m [(.fld (.sz (.s 37) 10) 0),(.fld (.sz (.s 37) 10) 1),(.fld (.sz (.s 37) 10) 2),(.fld (.sz (.s 37) 10) 3),(.fld (.sz (.s 37) 10) 4),(.fld (.sz (.s 37) 10) 5),(.fld (.sz (.s 37) 10) 6),(.fld (.sz (.s 37) 10) 7),(.fld (.sz (.s 37) 10) 8),(.fld (.sz (.s 37) 10) 9)])]⟩)
(.seq
(.reg ⟨[.call 38 [] (.id 18) false false [(.mm 14 0 10),(.s 2),(.s 3),(.s 4)]],[],[(15,.m [(.fld (.sz (.s 38) 10) 0),(.fld (.sz (.s 38) 10) 1),(.fld (.sz (.s 38) 10) 2),(.fld (.sz (.s 38) 10) 3),(.fld (.sz (.s 38) 10) 4),(.fld (.sz (.s 38) 10) 5),(.fld (.sz (.s 38) 10) 6),(.fld (.sz (.s 38) 10) 7),(.fld (.sz (.s 38) 10) 8),(.fld (.sz (.s 38) 10) 9)])]⟩)
(.seq
(.reg ⟨[],[],[(16,.v (.bin .add (.m 14 0) (.bin .rem (.s 4) (.bin .add (.bin .mul (.c (.int .u64 (2))) (.conv .u64 (.m 14 1))) (.c (.int .u64 (2)))))))]⟩)
(.seq
(.seq
(.reg ⟨[.call 39 [] (.id 29) false false [(.s 3),(.c (.int .i64 (50)))],.call 40 [] (.id 18) false false [(.mm 14 0 10),(.s 2),(.s 39),(.bin .add (.bin .mul (.c (.int .u64 (2))) (.s 16)) (.c (.int .u64 (1))))],.call 41 [] (.id 29) false false [(.s 3),(.c (.int .i64 (50)))],.call 42 [] (.id 18) false false [(.mm 15 0 10),(.s 5),(.s 41),(.bin .add (.bin .mul (.c (.int .u64 (2))) (.s 16)) (.c (.int .u64 (1))))]],[],[(17,.v (.c (.int .i64 (0)))),(18,.v (.len (.lit [(.mm 11 0 10),(.mm 14 0 10),(.mm 15 0 10),(.sz (.s 40) 10),(.sz (.s 42) 10)]))),(21,.v (.lit [(.mm 11 0 10),(.mm 14 0 10),(.mm 15 0 10),(.sz (.s 40) 10),(.sz (.s 42) 10)]))]⟩)
(.block 2
 (.loop [0,1,2,3,4,5,6,7,8,9,10,11,12,13,14,15,16,17,18,21]
  (.seq
  (.reg ⟨[],[],[(19,.v (.bin .lss (.s 17) (.s 18)))]⟩)
  (.seq
  (.cond (.s 19)
   .skip
   (.exit 2))
  (.seq
  (.block 3
   (.seq
   (.reg ⟨[],[],[(20,.m [(.fld (.flds (.idx (.s 21) (.s 17) 10) 0 10) 0),(.fld (.flds (.idx (.s 21) (.s 17) 10) 0 10) 1),(.fld (.flds (.idx (.s 21) (.s 17) 10) 0 10) 2),(.fld (.flds (.idx (.s 21) (.s 17) 10) 0 10) 3),(.fld (.flds (.idx (.s 21) (.s 17) 10) 0 10) 4),(.fld (.flds (.idx (.s 21) (.s 17) 10) 0 10) 5),(.fld (.flds (.idx (.s 21) (.s 17) 10) 0 10) 6),(.fld (.flds (.idx (.s 21) (.s 17) 10) 0 10) 7),(.fld (.flds (.idx (.s 21) (.s 17) 10) 0 10) 8),(.fld (.flds (.idx (.s 21) (.s 17) 10) 0 10) 9)])]⟩)
   (.seq
   (.seq
   (.reg ⟨[.call 43 [] (.id 30) false false [(.mm 20 0 10)],.call 44 [] (.id 31) false false [(.mm 20 0 10)],.lt 45 [] (.eqv true (.s 43) (.s 44)),.call 46 [(45,false)] (.id 32) false false [(.mm 20 0 10)],.call 47 [(45,false)] (.id 33) false false [(.mm 20 0 10)]],[([(45,false)],(.bin .neq (.s 46) (.s 47)))],[(22,.v (.ite (.s 45) (.c (.bool true)) (.bin .neq (.s 46) (.s 47))))]⟩)
   (.cond (.s 22)
    (.seq
    (.reg ⟨[],[],[(9,.v (.c (.bool false)))]⟩)
    .ret)
    .skip))
   (.seq
   (.reg ⟨[],[],[(23,.v (.c (.int .i64 (0)))),(24,.v (.len (.lit [(.c (.int .i64 (1))),(.c (.int .i64 (2))),(.c (.int .i64 (3))),(.c (.int .i64 (4))),(.one (.s 6))]))),(27,.v (.lit [(.c (.int .i64 (1))),(.c (.int .i64 (2))),(.c (.int .i64 (3))),(.c (.int .i64 (4))),(.one (.s 6))]))]⟩)
   (.block 4
    (.loop [0,1,2,3,4,5,6,7,8,9,10,11,12,13,14,15,16,17,18,19,20,21,22,23,24,27]
     (.seq
     (.reg ⟨[],[],[(25,.v (.bin .lss (.s 23) (.s 24)))]⟩)
     (.seq
     (.cond (.s 25)
      .skip
      (.exit 4))
     (.seq
     (.block 5
      (.seq
      (.reg ⟨[],[],[(26,.v (.fld (.idx (.s 27) (.s 23) 1) 0))]⟩)
      (.seq
      (.reg ⟨[.call 48 [] (.id 34) false false [(.mm 20 0 10),(.s 26)]],[],[(28,.v (.ext (.s 48) 0)),(29,.v (.ext (.s 48) 1))]⟩)
      (.seq
      (.reg ⟨[.call 49 [] (.id 35) false false [(.mm 20 0 10),(.s 26)]],[],[(30,.v (.ext (.s 49) 0)),(31,.v (.ext (.s 49) 1))]⟩)
      (.seq
      (.reg ⟨[.lt 50 [] (.bin .neq (.s 29) (.s 31)),.call 51 [(50,false)] (.id 36) false false [(.s 28),(.s 30)]],[([(50,false)],(.un .not (.s 51)))],[(32,.v (.ite (.s 50) (.c (.bool true)) (.un .not (.s 51))))]⟩)
      (.cond (.s 32)
       (.seq
       (.reg ⟨[],[],[(9,.v (.c (.bool false)))]⟩)
       .ret)
       .skip))))))
     (.reg ⟨[],[],[(23,.v (.bin .add (.s 23) (.c (.int .i64 (1)))))]⟩))))))))))
  (.reg ⟨[],[],[(17,.v (.bin .add (.s 17) (.c (.int .i64 (1)))))]⟩)))))))
(.seq
(.reg ⟨[],[],[(9,.v (.s 10))]⟩)
.ret)))))))))),
[(9,.v)]⟩
theorem c5:compFn Try.prog fresh sig [.fz,.fz,.fz,.fz,.fz,.fz,.fz] [] Try.f5=some p5:=by kernel_rfl
end Vm
end
section
namespace Vm
open Go Go.Proofs
set_option maxRecDepth 100000
set_option maxHeartbeats 1000000
theorem CR_vc{h:Hp}(hh:h.ok):VC Try.prog 30 false [hpV h] (.bool (rightR h)):=by
 rw[←(look_right h).1]
 exact CRight_vc Walk_ok WalkOld_ok hh
theorem CO_vc{h:Hp}(hh:h.ok){k:Int}:VC Try.prog 34 false [hpV h,vi k] (.tup [.sl ((objsR h k).1.map obV),vi (objsR h k).2]):=by
 rw[←look_objs h k]
 exact CObjects_vc Walk_ok WalkOld_ok hh
end Vm
end
section
namespace Vm
open Go Go.Proofs
set_option maxRecDepth 100000
set_option maxHeartbeats 1000000
def mvPs(f t:Ly)(ws out:List Int)(a:Nat):Nat→List Int
 |0=>out
 |j+1=>(mvPs f t ws out a j).set (a+j) (ptrM f t ((ws[a+j]?).getD 0)).1
def mvOb(f t:Ly)(ws out:List Int)(o:Ob):List Int:=
 if o.gone then out.set o.at_.toNat (ptrM f t ((ws[o.at_.toNat]?).getD 0)).1 else mvPs f t ws out (o.at_.toNat+1) o.ptrs.toNat
def mvL(f t:Ly)(ws:List Int)(l:List Ob):List Int:=l.foldl (mvOb f t ws) ws
@[simp] theorem mvPs_len(f t:Ly)(ws out:List Int)(a n:Nat):(mvPs f t ws out a n).length=out.length:=by
 induction n with
 |zero=>rfl
 |succ n ih=>simp[mvPs,ih]
@[simp] theorem mvOb_len(f t:Ly)(ws out:List Int)(o:Ob):(mvOb f t ws out o).length=out.length:=by
 unfold mvOb
 split<;>simp
theorem mvL_len(f t:Ly)(ws:List Int)(l:List Ob): ∀out,(l.foldl (mvOb f t ws) out).length=out.length:=by
 induction l with
 |nil=>intro out;rfl
 |cons o l ih=>intro out;rw[List.foldl_cons,ih,mvOb_len]
theorem mvPs_u{f t:Ly}{ws out:List Int}{a:Nat}(h: ∀w∈out,U64 w): ∀n,∀w∈mvPs f t ws out a n,U64 w
 |0=>h
 |n+1=>fun w hw=>by
  rcases List.mem_or_eq_of_mem_set hw with hw|rfl
  ·exact mvPs_u h n w hw
  ·exact ptrM_u _ _ _
theorem mvOb_u{f t:Ly}{ws out:List Int}{o:Ob}(h: ∀w∈out,U64 w): ∀w∈mvOb f t ws out o,U64 w:=by
 unfold mvOb
 split
 ·intro w hw
  rcases List.mem_or_eq_of_mem_set hw with hw|rfl
  ·exact h w hw
  ·exact ptrM_u _ _ _
 ·exact mvPs_u h _
theorem mvL_u{f t:Ly}{ws:List Int}{l:List Ob}: ∀ {out:List Int},(∀w∈out,U64 w)→ ∀w∈l.foldl (mvOb f t ws) out,U64 w:=by
 induction l with
 |nil=>intro out h;exact h
 |cons o l ih=>intro out h;rw[List.foldl_cons];exact ih (mvOb_u h)
def Within(n:Nat)(l:List Ob):Prop:= ∀o∈l,∃a s m:Nat,o.at_=a∧o.size=s∧o.ptrs=m∧a+(s+1)≤n∧s≤255∧m≤s
theorem moved20_vc{f t:Ly}(hf:f.fits)(ht:t.fits){ws:List Int}(hl:ws.length≤1000000)(hu: ∀w∈ws,U64 w){l:List Ob}(hll:l.length≤1000000)(hw:Within ws.length l):
  VC Try.prog 81 false [lyV f,lyV t,.sl (ws.map vu),.sl (l.map obV)] (.sl ((mvL f t ws l).map vu)):=by
 refine vc_of_wp Try.func81 follows (by kernel_rfl) c81 rfl ?_
 have kp:=fun w hw=>refPtrM_vc (w:=w) hf ht hw
 unfold lyV at kp
 simp[p81,lyV,lim,show ws.length≤4294967296 by omega]
 refine wpS_for 8 l.length (fun i=> [(7,.v (.sl (((l.take i).foldl (mvOb f t ws) ws).map vu))),(8,.v (vi i))]) (fun _=>True) (by simp) (fun i=>by simp) trivial ?_
 rintro i hi-
 have hlen:((l.take i).foldl (mvOb f t ws) ws).length=ws.length:=mvL_len _ _ _ _ _
 by_cases hlt:i<l.length
 case neg=>
  have:i=l.length:=by omega
  subst this
  rw[List.take_length]
  simp[mvL]
 have hx:l[i]? =some l[i]:=List.getElem?_eq_getElem hlt
 obtain⟨a,s,m,ea,es,em,hal,hs,hm⟩:=hw _ (List.getElem_mem hlt)
 have hnext:(l.take (i+1)).foldl (mvOb f t ws) ws=mvOb f t ws ((l.take i).foldl (mvOb f t ws) ws) l[i]:=by
  rw[List.take_add_one,hx,Option.toList_some,List.foldl_append]
  rfl
 generalize l[i]=o at*
 rw[hnext]
 generalize (l.take i).foldl (mvOb f t ws) ws=out at*
 have w0:=wrap_i ((i:Int)+1) (by omega) (by omega)
 have w1:=wrap_i ((a:Int)+1) (by omega) (by omega)
 obtain⟨e,he⟩: ∃e:Nat,a+1+m=e:=⟨_,rfl⟩
 have w2:IntKind.i64.wrap ((a:Int)+1+m)=(e:Int):=by rw[wrap_i _ (by omega) (by omega)];omega
 have ha1:a<ws.length:=by omega
 have hwa:ws[a]? =some ws[a]:=List.getElem?_eq_getElem ha1
 have hoa:out[a]? =some out[a]:=List.getElem?_eq_getElem (by omega)
 cases hg:o.gone
 ·simp[hlt,hx,at_of hx,ea,em,hg,w1]
  refine wpS_loopP (fun j:Nat=> [(7,.v (.sl ((mvPs f t ws out (a+1) j).map vu))),(12,.v (vi ((a+1+j:Nat):Int)))]) (fun j=>j≤m) (fun t=>match get t 12 with| .v (.int _ v)=>e+1-v.toNat|_=>0) 0 (by simp[mvPs]) (by omega) ?_
  intro j hj
  obtain⟨z,hz⟩: ∃z:Nat,a+1+j=z:=⟨_,rfl⟩
  simp only[hz]
  have wz:=wrap_i ((z:Int)+1) (by omega) (by omega)
  by_cases hjm:j<m
  ·have hzl:z<ws.length:=by omega
   have hzv:ws[z]? =some ws[z]:=List.getElem?_eq_getElem hzl
   have hzo:z< (mvPs f t ws out (a+1) j).length:=by rw[mvPs_len];omega
   have hzo2:z<out.length:=by omega
   have hzp:(mvPs f t ws out (a+1) j)[z]? =some (mvPs f t ws out (a+1) j)[z]:=List.getElem?_eq_getElem hzo
   have hk:=kp _ (hu _ (List.getElem_mem hzl))
   have hstep:mvPs f t ws out (a+1) (j+1)=(mvPs f t ws out (a+1) j).set z (ptrM f t ws[z]).1:=by rw[mvPs,hz,hzv];rfl
   generalize (mvPs f t ws out (a+1) j)[z]=u at*
   generalize ws[z]=v at*
   simp[ea,em,w1,w2,show z<e by omega,hzl,hzv,at_of hzv]
   refine callW_of hk (by simp) ?_
   simp[hzo2,hzp,at_of hzp,V.put,wz]
   exact⟨j+1,by omega,⟨by rw[hstep,List.map_set],by omega⟩,by omega⟩
  ·have:j=m:=by omega
   subst this
   have:z=e:=by omega
   subst this
   have hend:mvOb f t ws out o=mvPs f t ws out (a+1) j:=by unfold mvOb;rw[hg,ea,em];rfl
   simp[ea,em,w1,w2,w0,hlt,hend]
 ·have hk:=kp _ (hu _ (List.getElem_mem ha1))
  have hend:mvOb f t ws out o=out.set a (ptrM f t ws[a]).1:=by unfold mvOb;rw[hg,ea];simp[hwa]
  rw[hend]
  generalize ws[a]=v at*
  have ha2:a<out.length:=by omega
  generalize out[a]=u at*
  simp[hlt,hx,at_of hx,ea,hg,ha1,hwa,at_of hwa]
  refine callW_of hk (by simp) ?_
  simp[ha2,hoa,at_of hoa,V.put,w0,hlt,List.map_set]
def movM(h:Hp)(p:Pts)(base words:Int):Hp:=
 let f:=layH h
 let t:=layH {h with base:=base,cap:=words}
 {h with base:=base,cap:=words,roots:=h.roots.map fun w=>(ptrM f t w).1,low:=mvL f t h.low p.low,high:=mvL f t h.high p.high,old:=mvL f t h.old p.old,far:=mvL f t h.far p.far}
def moveR(h:Hp)(base words:Int):Hp×Int:=
 if rightR h=false∨base=0∨words<0∨4096<words then(Hp.zero,1)else if words<h.cap then(Hp.zero,8)else if 9223372036854775808-2*words<base then(Hp.zero,9)
 else(movM h ((partsR h).getD default) base words,0)
theorem within_of{h:Hp}{p:Pts}(t:Tld h p){k:Int}(hk:1≤k∧k≤4):Within (partH h k).length (p.at k):=fun o ho=>by
 obtain⟨a,n,m,ea,en,em,hal,hn,hm⟩:=t.ob hk ho
 exact⟨a,n,m,ea,en,em,hal,hn,hm⟩
def mvK(f t:Ly)(h:Hp)(p:Pts):Nat→Hp→Hp
 |0,g=>g
 |k+1,g=>withH (mvK f t h p k g) ((k+1:Nat):Int) (mvL f t (partH h ((k+1:Nat):Int)) (p.at ((k+1:Nat):Int)))
theorem refMove_vc{h:Hp}(hh:h.ok){base words:Int}(hb:U64 base)(hw:Fit words):VC Try.prog 47 false [hpV h,vu base,vi words] (.tup [hpV (moveR h base words).1,vi (moveR h base words).2]):=by
 refine vc_of_wp Try.func47 follows (by kernel_rfl) c47 rfl ?_
 have k1:=refRight_vc hh
 simp only[hpV]at k1
 unfold moveR
 simp[p47]
 refine callW_of k1 (by simp) ?_
 cases hr:rightR h
 ·simp[hpV,Hp.zero]
 simp
 by_cases h1:base=0
 ·simp[h1,hpV,Hp.zero]
 by_cases h2:words<0
 ·simp[h1,h2,hpV,Hp.zero]
 by_cases h3:4096<words
 ·simp[h1,h2,h3,hpV,Hp.zero]
 by_cases h4:words<h.cap
 ·simp[h1,h2,h3,h4,hpV,Hp.zero]
 obtain⟨hb1,hb2⟩:=hb
 have w1:=wrap_u words (by omega) (by omega)
 have w2:=wrap_u (2*words) (by omega) (by omega)
 have w3:=wrap_u (9223372036854775808-2*words) (by omega) (by omega)
 by_cases h5:9223372036854775808-2*words<base
 ·simp[h1,h2,h3,h4,h5,w1,w2,w3,hpV,Hp.zero]
 obtain⟨p,r⟩:=right_iff.1 hr
 rw[r.parts,Option.getD_some]
 have l1:=refLayout_vc (h:=h)
 have l2:=refLayout_vc (h:= {h with base:=base,cap:=words})
 have hf:=hh.lay
 have ht:(layH {h with base:=base,cap:=words}).fits:=by
  obtain⟨_,_,q3,q4,q5,q6,q7⟩:=hf
  exact⟨⟨hb1,hb2⟩,hw,q3,q4,q5,q6,q7⟩
 have kp:=fun w hw=>refPtrM_vc (w:=w) hf ht hw
 have pv:=parts_vc hh
 rw[r.parts]at pv
 have po:=parts_ok hh r.parts
 simp only[hpV]at l1 l2 pv
 simp[h1,h2,h3,h4,h5,w1,w2,w3]
 refine callW_of l1 (by simp) ?_
 generalize hfl:layH h=f at*
 simp[lyV]
 refine callW_of l2 (by simp) ?_
 generalize htl:layH {h with base:=base,cap:=words}=t at*
 simp[lyV]
 have hro:=r.nroots
 refine wpS_for 13 h.roots.length (fun i=> [(11,.m [vu base,vi words,vi h.to,.bool h.cycle,vi h.scan,.sl (h.low.map vu),.sl (h.high.map vu),.sl (h.old.map vu),.sl (h.far.map vu),.sl (((h.roots.take i).map fun w=>(ptrM f t w).1).map vu)]),(13,.v (vi i))]) (fun _=>True) (by simp) (fun i=>by simp) trivial ?_
 rintro i hi-
 have w0:=wrap_i ((i:Int)+1) (by omega) (by omega)
 by_cases hlt:i<h.roots.length
 ·have hx:h.roots[i]? =some h.roots[i]:=List.getElem?_eq_getElem hlt
  have hk:=kp _ (hh.rootsW _ (List.getElem_mem hlt))
  have hnx:(h.roots.take (i+1)).map (fun w=>vu (ptrM f t w).1)=(h.roots.take i).map (fun w=>vu (ptrM f t w).1)++ [vu (ptrM f t h.roots[i]).1]:=by
   rw[List.take_add_one,hx,Option.toList_some,List.map_append];rfl
  generalize h.roots[i]=v at*
  simp only[lyV]at hk
  simp[hlt,hx,at_of hx]
  refine callW_of hk (by simp) ?_
  simp[lim,w0,hlt]
  refine⟨by omega,?_⟩
  have:(vu∘fun w=>(ptrM f t w).1)=fun w=>vu (ptrM f t w).1:=rfl
  rw[this,←List.map_take,←List.map_take,hnx]
 have:i=h.roots.length:=by omega
 subst this
 rw[List.take_length]
 simp
 refine callW_of pv (by simp) ?_
 simp[ptO]
 generalize hrs:(h.roots.map fun w=>(ptrM f t w).1)=rs at*
 have hrs2:List.map (vu∘fun w=>(ptrM f t w).1) h.roots=rs.map vu:=by rw[←hrs,List.map_map]
 rw[hrs2]
 obtain⟨g0,hg0⟩: ∃g0:Hp,g0= {h with base:=base,cap:=words,roots:=rs}:=⟨_,rfl⟩
 refine wpS_loopP (fun k:Nat=> [(11,.m (hpCs (mvK f t h p k g0))),(19,.v (vi ((k+1:Nat):Int)))]) (fun k=>k≤4) (cnt 19 5) 0 (by simp[mvK,hg0,hpCs]) (by simp) ?_
 intro k hk
 by_cases hk4:k=4
 ·subst hk4
  have hend:mvK f t h p 4 g0=movM h p base words:=by
   simp only[mvK,hg0,movM,hfl,htl,←hrs]
   rfl
  rw[hend]
  simp[hpCs,hpV]
 have hkl:k<4:=by omega
 have hki:1≤((k+1:Nat):Int)∧((k+1:Nat):Int)≤4:=by omega
 have pt:=Part_vc (h:=h) (n:=((k+1:Nat):Int))
 have mv:=moved20_vc (f:=f) (t:=t) hf ht (ws:=partH h ((k+1:Nat):Int)) (partH_ok hh _).2 (partH_ok hh _).1 (l:=p.at ((k+1:Nat):Int)) (by
  have:=po.len ((k+1:Nat):Int)
  omega) (within_of r.toTld hki)
 have wv:=With_vc (h:=mvK f t h p k g0) (n:=((k+1:Nat):Int)) (l:=mvL f t (partH h ((k+1:Nat):Int)) (p.at ((k+1:Nat):Int)))
 have hnx:withH (mvK f t h p k g0) ((k+1:Nat):Int) (mvL f t (partH h ((k+1:Nat):Int)) (p.at ((k+1:Nat):Int)))=mvK f t h p (k+1) g0:=rfl
 rw[hnx]at wv
 have hpt:idxV (ptsV p) (vi ((k+1:Nat):Int)) 1=some (.sl ((p.at ((k+1:Nat):Int)).map obV)):=by
  have:k=0∨k=1∨k=2∨k=3:=by omega
  rcases this with rfl|rfl|rfl|rfl<;>rfl
 generalize hg2:mvK f t h p (k+1) g0=g2 at*
 generalize mvK f t h p k g0=g1 at*
 have wk:=wrap_i (((k+1:Nat):Int)+1) (by omega) (by omega)
 generalize hkk:((k+1:Nat):Int)=kk at*
 simp only[hpV,lyV]at pt mv wv
 have hle:kk≤4:=hki.2
 simp[hpCs,hle]
 refine callW_of pt (by simp) ?_
 simp[hpt]
 refine callW_of mv (by simp) ?_
 simp
 refine callW_of wv (by simp) ?_
 simp[wk]
 exact⟨k+1,by omega,⟨by rw[hg2];exact⟨rfl,rfl,rfl,rfl,rfl,rfl,rfl,rfl,rfl,rfl⟩,by omega⟩,by simp[cnt];omega⟩
end Vm
end
section
namespace Vm
open Go Go.Proofs
set_option maxRecDepth 100000
set_option maxHeartbeats 1000000
def placeN(h:Hp)(more:Int):Int:=h.cap+pick more 20
def placeB(h:Hp)(base more:Int):Int:=1+base.tmod (9223372036854775808-2*placeN h more)
theorem Place_vc{h:Hp}(hc:0≤h.cap∧h.cap≤4096){base more:Int}(hb:U64 base)(hm:Fit more):VC Try.prog 44 false [hpV h,vu base,vi more] (.tup [vu (placeB h base more),vi (placeN h more)]):=by
 refine vc_of_wp Try.func44 follows (by kernel_rfl) c44 rfl ?_
 have k:=pick20_vc (c:=more) (n:=20) hm (by omega)
 have hp:=pick_lt (c:=more) (n:=20) (by omega)
 obtain⟨hb1,hb2⟩:=hb
 unfold placeB placeN
 simp[p44]
 refine callW_of k (by simp) ?_
 generalize pick more 20=q at*
 have w0:=wrap_i (h.cap+q) (by omega) (by omega)
 have w1:=wrap_u (h.cap+q) (by omega) (by omega)
 have w2:=wrap_u (2*(h.cap+q)) (by omega) (by omega)
 have w3:=wrap_u (9223372036854775808-2*(h.cap+q)) (by omega) (by omega)
 have hm1:0≤base.tmod (9223372036854775808-2*(h.cap+q))∧base.tmod (9223372036854775808-2*(h.cap+q)) <9223372036854775808-2*(h.cap+q):=by
  rw[Int.tmod_eq_emod_of_nonneg hb1]
  exact⟨Int.emod_nonneg _ (by omega),Int.emod_lt_of_pos _ (by omega)⟩
 have w4:=wrap_u (base.tmod (9223372036854775808-2*(h.cap+q))) (by omega) (by omega)
 have w5:=wrap_u (1+base.tmod (9223372036854775808-2*(h.cap+q))) (by omega) (by omega)
 simp[w0,w1,w2,w3,w4,w5,show ¬9223372036854775808-2*(h.cap+q)=0 by omega]
end Vm
end
section
namespace Vm
open Go Go.Proofs
set_option maxRecDepth 100000
set_option maxHeartbeats 1000000
section
variable {f t:Ly}
theorem ptrM_zero(hf:rightL f=true)(ht:rightL t=true):ptrM f t 0=(0,0):=by
 unfold ptrM
 rw[if_neg (by simp[hf,ht]),if_pos rfl]
theorem ptrM_adr(hf:rightL f=true)(ht:rightL t=true){k a w:Int}(hk:1≤k∧k≤4)(ha:0≤a∧a<sizL f k)(hs:sizL t k=sizL f k)(h0:w≠0)(hw:adr w=(fstL f k+a,0)):ptrM f t w=(refR t k a,0):=by
 unfold ptrM
 rw[if_neg (by simp[hf,ht]),if_neg h0,hw]
 simp only
 rw[find_in hf hk ha]
 simp only
 rw[addr_in ht hk ⟨ha.1,by omega⟩]
 simp[refR]
theorem ptrM_ref(hf:rightL f=true)(ht:rightL t=true){k a:Int}(hk:1≤k∧k≤4)(ha:0≤a∧a<sizL f k)(hs:sizL t k=sizL f k):ptrM f t (refR f k a)=(refR t k a,0):=by
 refine ptrM_adr hf ht hk ha hs ?_ (adr_ref hf ha.1)
 have:=fstL_range hf k
 unfold refR
 omega
theorem sizL_lay(h:Hp)(b c k:Int):sizL (layH {h with base:=b,cap:=c}) k=sizL (layH h) k:=rfl
theorem mvPs_congr{ws ws' out:List Int}{a n:Nat}(h: ∀j,j<n→ws'[a+j]? =ws[a+j]?):mvPs f t ws' out a n=mvPs f t ws out a n:=by
 induction n with
 |zero=>rfl
 |succ n ih=>rw[mvPs,mvPs,ih fun j hj=>h j (by omega),h n (by omega)]
theorem mvPs_at{ws out:List Int}{a i:Nat}: ∀ {n:Nat},i<a∨a+n≤i→(mvPs f t ws out a n)[i]? =out[i]?
 |0,_=>rfl
 |n+1,h=>by
  rw[mvPs,List.getElem?_set,if_neg (by omega)]
  exact mvPs_at (by omega)
theorem mvPs_in{ws out:List Int}{a i:Nat}: ∀ {n:Nat},a≤i→i<a+n→i<out.length→(mvPs f t ws out a n)[i]? =some (ptrM f t ((ws[i]?).getD 0)).1
 |0,h1,h2,_=>by omega
 |n+1,h1,h2,h3=>by
  rw[mvPs,List.getElem?_set]
  by_cases e:a+n=i
  ·subst e
   rw[if_pos rfl,if_pos (by rw[mvPs_len];exact h3)]
  ·rw[if_neg e]
   exact mvPs_in h1 (by omega) h3
theorem mvOb_at{ws out:List Int}{o:Ob}{a m s i:Nat}(ea:o.at_=a)(em:o.ptrs=m)(es:o.size=s)(hm:m≤s)(h:i<a∨a+1+s≤i):(mvOb f t ws out o)[i]? =out[i]? :=by
 unfold mvOb
 split
 ·rw[List.getElem?_set,if_neg (by rw[ea,Int.toNat_natCast];omega)]
 ·rw[ea,em,Int.toNat_natCast,Int.toNat_natCast]
  exact mvPs_at (by omega)
theorem mvL_at{ws:List Int}{i:Nat}: ∀ {l:List Ob} {out:List Int},(∀o∈l,∃a m s:Nat,o.at_=a∧o.ptrs=m∧o.size=s∧m≤s∧(i<a∨a+1+s≤i))→(l.foldl (mvOb f t ws) out)[i]? =out[i]?
 | [],_,_=>rfl
 |o::l,out,h=>by
  rw[List.foldl_cons,mvL_at fun x hx=>h x (List.mem_cons_of_mem _ hx)]
  obtain⟨a,m,s,ea,em,es,hm,hi⟩:=h o (List.mem_cons_self ..)
  exact mvOb_at ea em es hm hi
theorem mvPs_all{ws:List Int}:mvPs f t ws ws 0 ws.length=ws.map fun w=>(ptrM f t w).1:=by
 apply List.ext_getElem?
 intro i
 by_cases h:i<ws.length
 ·rw[mvPs_in (by omega) (by omega) h,List.getElem?_map,List.getElem?_eq_getElem h];rfl
 ·rw[List.getElem?_eq_none (by rw[mvPs_len];omega),List.getElem?_eq_none (by simp;omega)]
end
section
variable {h:Hp} {p:Pts} {base words:Int}
structure MvOk (h:Hp) (base words:Int):Prop where
 b0:base≠0
 w0:0≤words
 w1:words≤4096
 cap:h.cap≤words
 top:base≤9223372036854775808-2*words
theorem MvOk.right(m:MvOk h base words)(hb:0≤base)(hr:rightL (layH h)=true):rightL (layH {h with base:=base,cap:=words})=true:=by
 have:=rightL_iff.1 hr
 have:=m.b0
 have:=m.w0
 have:=m.w1
 have:=m.cap
 have:=m.top
 rw[rightL_iff]
 simp only[layH]at*
 omega
theorem gos_err(t:Tld h p)(hr2:rightL (layH {h with base:=base,cap:=words})=true){w i j:Int}(hi:1≤i∧i≤4)(hj:1≤j∧j≤4)(hg:Gos h p w i j):
  ptrM (layH h) (layH {h with base:=base,cap:=words}) w=(0,0)∧w=0∨ ∃k o,(k=i∨k=j)∧o∈p.at k∧w=refR (layH h) k o.at_∧ptrM (layH h) (layH {h with base:=base,cap:=words}) w=(refR (layH {h with base:=base,cap:=words}) k o.at_,0):=by
 rcases hg with rfl| ⟨k,o,hk,ho,rfl⟩
 ·exact .inl ⟨ptrM_zero t.lay hr2,rfl⟩
 ·have hk4:1≤k∧k≤4:=by rcases hk with rfl|rfl<;>assumption
  obtain⟨a,n,m,ea,en,em,hal,_⟩:=t.ob hk4 ho
  refine .inr ⟨k,o,hk,ho,rfl,?_⟩
  exact ptrM_ref t.lay hr2 hk4 ⟨by omega,by rw[sizL_part h hk4];omega⟩ (sizL_lay h base words k)
theorem gos_err0(t:Tld h p)(hr2:rightL (layH {h with base:=base,cap:=words})=true){w i j:Int}(hi:1≤i∧i≤4)(hj:1≤j∧j≤4)(hg:Gos h p w i j):(ptrM (layH h) (layH {h with base:=base,cap:=words}) w).2=0:=by
 rcases gos_err t hr2 hi hj hg with ⟨e,_⟩ | ⟨_,_,_,_,_,e⟩<;>rw[e]
theorem ptrAt_err0(t:Tld h p)(hr2:rightL (layH {h with base:=base,cap:=words})=true){k:Int}{i:Nat}{w:Int}(hg:PtrAt h p k i w):(ptrM (layH h) (layH {h with base:=base,cap:=words}) w).2=0:=by
 unfold PtrAt at hg
 split at hg
 ·exact gos_err0 t hr2 (by omega) (by omega) hg
 split at hg
 ·rcases hg with hg|hg
  ·exact gos_err0 t hr2 (by omega) (by omega) hg
  ·exact gos_err0 t hr2 (by omega) (by omega) hg
 ·exact gos_err0 t hr2 (by omega) (by omega) hg
theorem adr_ne{w:Int}(h:(adr w).2=0):w≠0:=by
 rintro rfl
 simp[adr]at h
theorem gone_word(r:Body h p){k:Int}(hk:1≤k∧k≤4){o:Ob}(ho:o∈p.at k)(hg:o.gone=true):3≤k∧ ∃w q,(partH h k)[o.at_.toNat]? =some w∧q∈p.low∧adr w=(fstL (layH h) 1+q.at_,0):=by
 have hs:=((r.tiles k hk).stands o ho).1
 obtain⟨w,hw,hc⟩:=hs.word
 rw[hg,if_pos rfl]at hc
 obtain⟨h1,h2,h3⟩:=hc
 have hk3:3≤k:=by
  have:=of_decide_eq_true h1
  omega
 obtain⟨q,hq,e,_⟩:=r.gone k ⟨hk3,hk.2⟩ o ho hg
 refine⟨hk3,w,q,hw,hq,?_⟩
 rw[←e,h3,←h2]
theorem gone_ptrM(r:Body h p)(hr2:rightL (layH {h with base:=base,cap:=words})=true){w:Int}{q:Ob}(hq:q∈p.low)(hw:adr w=(fstL (layH h) 1+q.at_,0)):ptrM (layH h) (layH {h with base:=base,cap:=words}) w=(refR (layH {h with base:=base,cap:=words}) 1 q.at_,0):=by
 obtain⟨a,n,m,ea,en,em,hal,_⟩:=r.toTld.ob (k:=1) (by omega) hq
 exact ptrM_adr r.lay hr2 (by omega) ⟨by omega,by rw[sizL_part h (by omega)];omega⟩ (sizL_lay h base words 1) (adr_ne (by rw[hw])) hw
theorem lsH_part(h:Hp){k:Nat}(hk:k<4):lsH h k=partH h ((k+1:Nat):Int):=by
 have:k=0∨k=1∨k=2∨k=3:=by omega
 rcases this with rfl|rfl|rfl|rfl<;>rfl
theorem Tiles.before{ws:List Int}{old:Bool}{l:List Ob}(ht:Tiles ws old 0 l){i:Nat}{o:Ob}(ho:l[i]? =some o): ∀x∈l.take i,x.at_+1+x.size≤o.at_:=by
 intro x hx
 obtain⟨j,hj⟩:=List.mem_iff_getElem?.1 hx
 have hji:j<i:=by
  have:=(List.getElem?_eq_some_iff.1 hj).1
  rw[List.length_take]at this
  omega
 rw[List.getElem?_take_of_lt hji]at hj
 have hp:=ht.pairwise
 have hil:=(List.getElem?_eq_some_iff.1 ho).1
 have hlt:x.at_<o.at_:=by
  have:=List.pairwise_iff_getElem.1 hp j i (by omega) hil hji
  rw[List.getElem?_eq_getElem (by omega)]at hj
  rw[List.getElem?_eq_getElem hil]at ho
  rw[Option.some.inj hj,Option.some.inj ho]at this
  exact this
 have hsx:=(ht.stands o (List.mem_of_getElem? ho)).1
 have hs0:=shapeOk_iff.1 hsx.shape
 rcases ht.apart x (List.mem_of_getElem? hj) o (List.mem_of_getElem? ho)with e|e|e
 ·rw[e]at hlt;omega
 ·exact e
 ·omega
theorem move_hob(r:Body h p)(hr2:rightL (layH {h with base:=base,cap:=words})=true){f t:Ly}(hf:f=layH h)(ht:t=layH {h with base:=base,cap:=words}): ∀k,k<4→ ∀(i:Nat) (o:Ob),(p.at ((k+1:Nat):Int))[i]? =some o→ ∀out,out=((p.at ((k+1:Nat):Int)).take i).foldl (mvOb f t (lsH h k)) (lsH h k)→ ∃a s m:Nat,o.at_=a∧o.size=s∧o.ptrs=m∧a+(s+1)≤(lsH h k).length∧s≤255∧m≤s∧
   (o.gone=true→mvPs f t out out a 1=mvOb f t (lsH h k) out o∧ ∀x,out[a]? =some x→(ptrM f t x).2=0)∧(o.gone=false→mvPs f t out out (a+1) m=mvOb f t (lsH h k) out o∧ ∀j,j<m→ ∀x,out[a+1+j]? =some x→(ptrM f t x).2=0):=by
 intro k hk i o ho out hout
 have hkk:1≤((k+1:Nat):Int)∧((k+1:Nat):Int)≤4:=by omega
 rw[lsH_part h hk]at hout⊢
 generalize ((k+1:Nat):Int)=kk at*
 have hm:=List.mem_of_getElem? ho
 obtain⟨a,s,m,ea,es,em,hal,hs,hms⟩:=r.toTld.ob hkk hm
 have hT:=r.tiles kk hkk
 have hin: ∀q,a≤q→out[q]? =(partH h kk)[q]? :=fun q hq=>by
  rw[hout]
  refine mvL_at fun x hx=> ?_
  obtain⟨a',s',m',ea',es',em',hal',hs',hms'⟩:=r.toTld.ob hkk (List.mem_of_mem_take hx)
  have:=hT.before ho x hx
  exact⟨a',m',s',ea',em',es',hms',by omega⟩
 refine⟨a,s,m,ea,es,em,hal,hs,hms,fun hg=>⟨?_,fun x hx=> ?_⟩,fun hg=>⟨?_,fun j hj x hx=> ?_⟩⟩
 ·rw[mvPs_congr (ws:=partH h kk) fun j _=>hin (a+j) (by omega)]
  unfold mvOb
  rw[if_pos hg,ea,Int.toNat_natCast]
  rfl
 ·obtain⟨_,w,q,hw,hq,ha⟩:=gone_word r hkk hm hg
  rw[ea,Int.toNat_natCast]at hw
  rw[hin a (Nat.le_refl _),hw]at hx
  cases hx
  rw[hf,ht,gone_ptrM r hr2 hq ha]
 ·rw[mvPs_congr (ws:=partH h kk) fun j _=>hin (a+1+j) (by omega)]
  unfold mvOb
  rw[if_neg (by rw[hg];simp),ea,em,Int.toNat_natCast,Int.toNat_natCast]
 ·rw[hin _ (by omega)]at hx
  have:=r.ptr kk hkk o hm hg j (by omega) x (by rw[ea,Int.toNat_natCast];exact hx)
  rw[hf,ht]
  exact ptrAt_err0 r.toTld hr2 this
end
end Vm
end
section
namespace Vm
open Go Go.Proofs
set_option maxRecDepth 100000
end Vm
end
section
namespace Vm
open Go Go.Proofs
set_option maxRecDepth 100000
end Vm
end
section
namespace Vm
open Go Go.Proofs
set_option maxRecDepth 100000
set_option maxHeartbeats 1000000
section
variable {f t:Ly}
open Classical in
open Classical in
theorem mvL_length{ws:List Int}{l:List Ob}:(mvL f t ws l).length=ws.length:=mvL_len _ _ _ _ _
end
end Vm
end
section
namespace Vm
open Go Go.Proofs
set_option maxRecDepth 100000
set_option maxHeartbeats 1000000
end Vm
end
section
namespace Vm
open Go Go.Proofs
set_option maxRecDepth 100000
set_option maxHeartbeats 1000000
end Vm
end
section
namespace Vm
open Go Go.Proofs
set_option maxRecDepth 100000
set_option maxHeartbeats 1000000
section
variable {x:Rw} {c:Bool}
theorem stillX_ok(hx:x.ok):(stillX x).ok∧(stillX x).cycle=false∧(stillX x).roots.length≤5:=
 ⟨(fillH_ok (stand_ok hx false).1 (stand_ok hx false).2.1).1,(fillH_ok (stand_ok hx false).1 (stand_ok hx false).2.1).2.2.2,by
   have:=(stand_ok hx false).1.rl
   simp only[stillX,fillH,List.length_map]
   exact this⟩
end
end Vm
end
section
namespace Vm
open Go
open Go.Proofs
set_option maxRecDepth 100000
def p12:Fn:=⟨54,[0,1,2,3,4,5,6,7,8,9,15,17,18,19,20,21,22,65,64,66,24,63,86,85,87,26,84,27,93,28,29,30,31,119,32,133,132,134,34,131,147,146,148,36,145,37,38,39,40,41,42,43,44,196],
(.seq
(.reg ⟨[],[],[(9,.m [(.fld (.sz (.s 0) 7) 0),(.fld (.sz (.s 0) 7) 1),(.fld (.sz (.s 0) 7) 2),(.fld (.sz (.s 0) 7) 3),(.fld (.sz (.s 0) 7) 4),(.fld (.sz (.s 0) 7) 5),(.fld (.sz (.s 0) 7) 6)]),(10,.m [(.fld (.sz (.s 6) 7) 0),(.fld (.sz (.s 6) 7) 1),(.fld (.sz (.s 6) 7) 2),(.fld (.sz (.s 6) 7) 3),(.fld (.sz (.s 6) 7) 4),(.fld (.sz (.s 6) 7) 5),(.fld (.sz (.s 6) 7) 6)]),(11,.m [(.fld (.sz (.s 8) 6) 0),(.fld (.sz (.s 8) 6) 1),(.fld (.sz (.s 8) 6) 2),(.fld (.sz (.s 8) 6) 3),(.fld (.sz (.s 8) 6) 4),(.fld (.sz (.s 8) 6) 5)]),(12,.v (.c (.bool false)))]⟩)
(.seq
(.reg ⟨[.call 54 [] (.id 43) false false []],[],[(13,.v (.s 54))]⟩)
(.seq
(.reg ⟨[.call 55 [] (.id 16) false false [(.mm 9 0 7)]],[],[(14,.m [(.fld (.sz (.s 55) 10) 0),(.fld (.sz (.s 55) 10) 1),(.fld (.sz (.s 55) 10) 2),(.fld (.sz (.s 55) 10) 3),(.fld (.sz (.s 55) 10) 4),(.fld (.sz (.s 55) 10) 5),(.fld (.sz (.s 55) 10) 6),(.fld (.sz (.s 55) 10) 7),(.fld (.sz (.s 55) 10) 8),(.fld (.sz (.s 55) 10) 9)])]⟩)
(.seq
(.reg ⟨[.call 56 [] (.id 44) false false [(.mm 14 0 10),(.s 4),(.s 5)]],[],[(15,.v (.ext (.s 56) 0)),(16,.v (.ext (.s 56) 1))]⟩)
(.seq
(.seq
(.reg ⟨[.call 57 [] (.id 45) false false [(.mm 9 0 7)],.call 58 [] (.id 18) false false [(.mm 14 0 10),(.s 1),(.s 2),(.s 3)]],[],[(17,.v (.c (.int .i64 (0)))),(18,.v (.len (.lit [(.mm 14 0 10),(.sz (.s 57) 10),(.sz (.s 58) 10)]))),(21,.v (.lit [(.mm 14 0 10),(.sz (.s 57) 10),(.sz (.s 58) 10)]))]⟩)
(.block 0
 (.loop [0,1,2,3,4,5,6,7,8,9,10,11,12,13,14,15,16,17,18,21]
  (.seq
  (.reg ⟨[],[],[(19,.v (.bin .lss (.s 17) (.s 18)))]⟩)
  (.seq
  (.cond (.s 19)
   .skip
   (.exit 0))
  (.seq
  (.block 1
   (.seq
   (.reg ⟨[],[],[(20,.m [(.fld (.flds (.idx (.s 21) (.s 17) 10) 0 10) 0),(.fld (.flds (.idx (.s 21) (.s 17) 10) 0 10) 1),(.fld (.flds (.idx (.s 21) (.s 17) 10) 0 10) 2),(.fld (.flds (.idx (.s 21) (.s 17) 10) 0 10) 3),(.fld (.flds (.idx (.s 21) (.s 17) 10) 0 10) 4),(.fld (.flds (.idx (.s 21) (.s 17) 10) 0 10) 5),(.fld (.flds (.idx (.s 21) (.s 17) 10) 0 10) 6),(.fld (.flds (.idx (.s 21) (.s 17) 10) 0 10) 7),(.fld (.flds (.idx (.s 21) (.s 17) 10) 0 10) 8),(.fld (.flds (.idx (.s 21) (.s 17) 10) 0 10) 9)])]⟩)
   (.seq
   (.reg ⟨[],[],[(22,.v (.c (.int .i64 (0)))),(23,.v (.len (.lit [(.ag [(.one (.s 4)),(.c (.int .u64 (0)))]),(.ag [(.one (.s 15)),(.c (.int .u64 (1)))]),(.ag [(.bin .sub (.c (.int .u64 (9223372036854775808))) (.bin .mul (.c (.int .u64 (2))) (.conv .u64 (.s 16)))),(.c (.int .u64 (1)))]),(.ag [(.bin .add (.bin .sub (.c (.int .u64 (9223372036854775808))) (.bin .mul (.c (.int .u64 (2))) (.conv .u64 (.s 16)))) (.c (.int .u64 (1)))),(.c (.int .u64 (1)))])]))),(26,.v (.lit [(.ag [(.one (.s 4)),(.c (.int .u64 (0)))]),(.ag [(.one (.s 15)),(.c (.int .u64 (1)))]),(.ag [(.bin .sub (.c (.int .u64 (9223372036854775808))) (.bin .mul (.c (.int .u64 (2))) (.conv .u64 (.s 16)))),(.c (.int .u64 (1)))]),(.ag [(.bin .add (.bin .sub (.c (.int .u64 (9223372036854775808))) (.bin .mul (.c (.int .u64 (2))) (.conv .u64 (.s 16)))) (.c (.int .u64 (1)))),(.c (.int .u64 (1)))])]))]⟩)
   (.block 2
    (.loop [0,1,2,3,4,5,6,7,8,9,10,11,12,13,14,15,16,17,18,19,20,21,22,23,26]
     (.seq
     (.reg ⟨[],[],[(24,.v (.bin .lss (.s 22) (.s 23)))]⟩)
     (.seq
     (.cond (.s 24)
      .skip
      (.exit 2))
     (.seq
     (.block 3
      (.seq
      (.reg ⟨[],[],[(25,.m [(.fld (.flds (.idx (.s 26) (.s 22) 2) 0 2) 0),(.fld (.flds (.idx (.s 26) (.s 22) 2) 0 2) 1)])]⟩)
      (.seq
      (.reg ⟨[],[],[(27,.v (.s 5))]⟩)
      (.seq
      (.seq
      (.reg ⟨[],[([],(.ai (.c (.agg [(.bool true),(.bool true)])) (.c (.int .i64 (1))) 2 1 false))],[(28,.v (.bin .eql (.ai (.mm 25 0 2) (.c (.int .i64 (1))) 2 1 false) (.c (.int .u64 (1)))))]⟩)
      (.cond (.s 28)
       (.reg ⟨[],[],[(27,.v (.s 16))]⟩)
       .skip))
      (.seq
      (.reg ⟨[.call 59 [] (.id 46) false false [(.mm 20 0 10),(.ai (.mm 25 0 2) (.c (.int .i64 (0))) 2 1 false),(.s 27)]],[([],(.ai (.c (.agg [(.bool true),(.bool true)])) (.c (.int .i64 (0))) 2 1 false))],[(29,.m [(.fld (.sz (.ext (.s 59) 0) 10) 0),(.fld (.sz (.ext (.s 59) 0) 10) 1),(.fld (.sz (.ext (.s 59) 0) 10) 2),(.fld (.sz (.ext (.s 59) 0) 10) 3),(.fld (.sz (.ext (.s 59) 0) 10) 4),(.fld (.sz (.ext (.s 59) 0) 10) 5),(.fld (.sz (.ext (.s 59) 0) 10) 6),(.fld (.sz (.ext (.s 59) 0) 10) 7),(.fld (.sz (.ext (.s 59) 0) 10) 8),(.fld (.sz (.ext (.s 59) 0) 10) 9)]),(30,.v (.ext (.s 59) 1))]⟩)
      (.seq
      (.reg ⟨[.call 60 [] (.id 47) false false [(.mm 20 0 10),(.ai (.mm 25 0 2) (.c (.int .i64 (0))) 2 1 false),(.s 27)]],[([],(.ai (.c (.agg [(.bool true),(.bool true)])) (.c (.int .i64 (0))) 2 1 false))],[(31,.m [(.fld (.sz (.ext (.s 60) 0) 10) 0),(.fld (.sz (.ext (.s 60) 0) 10) 1),(.fld (.sz (.ext (.s 60) 0) 10) 2),(.fld (.sz (.ext (.s 60) 0) 10) 3),(.fld (.sz (.ext (.s 60) 0) 10) 4),(.fld (.sz (.ext (.s 60) 0) 10) 5),(.fld (.sz (.ext (.s 60) 0) 10) 6),(.fld (.sz (.ext (.s 60) 0) 10) 7),(.fld (.sz (.ext (.s 60) 0) 10) 8),(.fld (.sz (.ext (.s 60) 0) 10) 9)]),(32,.v (.ext (.s 60) 1))]⟩)
      (.seq
      (.reg ⟨[.lt 61 [] (.bin .neq (.s 30) (.s 32)),.call 62 [(61,false)] (.id 22) false false [(.mm 29 0 10),(.mm 31 0 10)]],[([(61,false)],(.un .not (.s 62)))],[(33,.v (.ite (.s 61) (.c (.bool true)) (.un .not (.s 62))))]⟩)
      (.cond (.s 33)
       (.seq
       (.reg ⟨[],[],[(12,.v (.c (.bool false)))]⟩)
       .ret)
       .skip))))))))
     (.reg ⟨[],[],[(22,.v (.bin .add (.s 22) (.c (.int .i64 (1)))))]⟩)))))))))
  (.reg ⟨[],[],[(17,.v (.bin .add (.s 17) (.c (.int .i64 (1)))))]⟩)))))))
(.seq
(.reg ⟨[.call 63 [] (.id 48) false false [(.s 7),(.mm 11 0 6)]],[],[(34,.m [(.fld (.sz (.s 63) 7) 0),(.fld (.sz (.s 63) 7) 1),(.fld (.sz (.s 63) 7) 2),(.fld (.sz (.s 63) 7) 3),(.fld (.sz (.s 63) 7) 4),(.fld (.sz (.s 63) 7) 5),(.fld (.sz (.s 63) 7) 6)])]⟩)
(.seq
(.seq
(.reg ⟨[.call 64 [] (.id 48) false false [(.s 4),(.mm 11 0 6)],.call 65 [] (.id 38) false false [(.mm 14 0 10)]],[],[(35,.v (.c (.int .i64 (0)))),(36,.v (.len (.lit [(.mm 10 0 7),(.sz (.s 64) 7),(.sz (.s 65) 7)]))),(39,.v (.lit [(.mm 10 0 7),(.sz (.s 64) 7),(.sz (.s 65) 7)]))]⟩)
(.block 4
 (.loop [0,1,2,3,4,5,6,7,8,9,10,11,12,13,14,15,16,17,18,19,21,34,35,36,39]
  (.seq
  (.reg ⟨[],[],[(37,.v (.bin .lss (.s 35) (.s 36)))]⟩)
  (.seq
  (.cond (.s 37)
   .skip
   (.exit 4))
  (.seq
  (.block 5
   (.seq
   (.reg ⟨[],[],[(38,.m [(.fld (.flds (.idx (.s 39) (.s 35) 7) 0 7) 0),(.fld (.flds (.idx (.s 39) (.s 35) 7) 0 7) 1),(.fld (.flds (.idx (.s 39) (.s 35) 7) 0 7) 2),(.fld (.flds (.idx (.s 39) (.s 35) 7) 0 7) 3),(.fld (.flds (.idx (.s 39) (.s 35) 7) 0 7) 4),(.fld (.flds (.idx (.s 39) (.s 35) 7) 0 7) 5),(.fld (.flds (.idx (.s 39) (.s 35) 7) 0 7) 6)])]⟩)
   (.seq
   (.reg ⟨[],[],[(40,.v (.c (.int .i64 (0)))),(41,.v (.len (.lit [(.one (.s 3)),(.c (.int .u64 (0))),(.bin .add (.bin .mul (.c (.int .u64 (2))) (.bin .add (.m 34 0) (.bin .rem (.s 3) (.c (.int .u64 (90)))))) (.c (.int .u64 (1))))]))),(44,.v (.lit [(.one (.s 3)),(.c (.int .u64 (0))),(.bin .add (.bin .mul (.c (.int .u64 (2))) (.bin .add (.m 34 0) (.bin .rem (.s 3) (.c (.int .u64 (90)))))) (.c (.int .u64 (1))))]))]⟩)
   (.block 6
    (.loop [0,1,2,3,4,5,6,7,8,9,10,11,12,13,14,15,16,17,18,19,21,34,35,36,37,38,39,40,41,44]
     (.seq
     (.reg ⟨[],[],[(42,.v (.bin .lss (.s 40) (.s 41)))]⟩)
     (.seq
     (.cond (.s 42)
      .skip
      (.exit 6))
     (.seq
     (.block 7
      (.seq
      (.reg ⟨[],[],[(43,.v (.fld (.idx (.s 44) (.s 40) 1) 0))]⟩)
      (.seq
      (.reg ⟨[.call 66 [] (.id 49) false false [(.mm 34 0 7),(.mm 38 0 7),(.s 43)]],[],[(45,.v (.ext (.s 66) 0)),(46,.v (.ext (.s 66) 1))]⟩)
      (.seq
      (.reg ⟨[.call 67 [] (.id 50) false false [(.mm 34 0 7),(.mm 38 0 7),(.s 43)]],[],[(47,.v (.ext (.s 67) 0)),(48,.v (.ext (.s 67) 1))]⟩)
      (.seq
      (.reg ⟨[.call 68 [] (.id 49) false false [(.mm 38 0 7),(.mm 34 0 7),(.s 43)]],[],[(49,.v (.ext (.s 68) 0)),(50,.v (.ext (.s 68) 1))]⟩)
      (.seq
      (.reg ⟨[.call 69 [] (.id 50) false false [(.mm 38 0 7),(.mm 34 0 7),(.s 43)]],[],[(51,.v (.ext (.s 69) 0)),(52,.v (.ext (.s 69) 1))]⟩)
      (.seq
      (.reg ⟨[.lt 70 [] (.bin .neq (.s 45) (.s 47)),.lt 71 [] (.ite (.s 70) (.c (.bool true)) (.bin .neq (.s 46) (.s 48))),.lt 72 [] (.ite (.s 71) (.c (.bool true)) (.bin .neq (.s 49) (.s 51)))],[([(70,false)],(.bin .neq (.s 46) (.s 48))),([(71,false)],(.bin .neq (.s 49) (.s 51))),([(72,false)],(.bin .neq (.s 50) (.s 52)))],[(53,.v (.ite (.s 72) (.c (.bool true)) (.bin .neq (.s 50) (.s 52))))]⟩)
      (.cond (.s 53)
       (.seq
       (.reg ⟨[],[],[(12,.v (.c (.bool false)))]⟩)
       .ret)
       .skip))))))))
     (.reg ⟨[],[],[(40,.v (.bin .add (.s 40) (.c (.int .i64 (1)))))]⟩)))))))))
  (.reg ⟨[],[],[(35,.v (.bin .add (.s 35) (.c (.int .i64 (1)))))]⟩)))))))
(.seq
(.reg ⟨[],[],[(12,.v (.s 13))]⟩)
.ret)))))))),
[(12,.v)]⟩
theorem c12:compFn Try.prog fresh sig [.fz,.fz,.fz,.fz,.fz,.fz,.fz,.fz,.fz] [] Try.f12=some p12:=by kernel_rfl
def p43:Fn:=⟨14,[0,1,2,3,4,5,6,7,8,9,10,11,12,13],
(.seq
(.reg ⟨[],[],[(0,.v (.c (.bool false)))]⟩)
(.seq
(.reg ⟨[],[([],(.ag [(.c (.int .u64 (10))),(.c (.int .i64 (5))),(.c (.int .i64 (0))),(.c (.bool false)),(.c (.int .i64 (2))),(.lit [(.c (.int .u64 (2))),(.c (.int .u64 (6)))]),(.c (.sl [])),(.c (.sl [])),(.c (.sl [])),(.lit [(.c (.int .u64 (21)))])]))],[(1,.m [(.c (.int .u64 (10))),(.c (.int .i64 (5))),(.c (.int .i64 (0))),(.c (.bool false)),(.c (.int .i64 (2))),(.lit [(.c (.int .u64 (2))),(.c (.int .u64 (6)))]),(.c (.sl [])),(.c (.sl [])),(.c (.sl [])),(.lit [(.c (.int .u64 (21)))])])]⟩)
(.seq
(.reg ⟨[.call 14 [] (.id 46) false false [(.mm 1 0 10),(.c (.int .u64 (100))),(.c (.int .i64 (9)))]],[],[(2,.m [(.fld (.sz (.ext (.s 14) 0) 10) 0),(.fld (.sz (.ext (.s 14) 0) 10) 1),(.fld (.sz (.ext (.s 14) 0) 10) 2),(.fld (.sz (.ext (.s 14) 0) 10) 3),(.fld (.sz (.ext (.s 14) 0) 10) 4),(.fld (.sz (.ext (.s 14) 0) 10) 5),(.fld (.sz (.ext (.s 14) 0) 10) 6),(.fld (.sz (.ext (.s 14) 0) 10) 7),(.fld (.sz (.ext (.s 14) 0) 10) 8),(.fld (.sz (.ext (.s 14) 0) 10) 9)]),(3,.v (.fl (.ext (.s 14) 1)))]⟩)
(.seq
(.reg ⟨[.call 15 [] (.id 46) false false [(.mm 1 0 10),(.c (.int .u64 (100))),(.c (.int .i64 (4)))]],[],[(4,.m [(.fld (.sz (.ext (.s 15) 0) 10) 0),(.fld (.sz (.ext (.s 15) 0) 10) 1),(.fld (.sz (.ext (.s 15) 0) 10) 2),(.fld (.sz (.ext (.s 15) 0) 10) 3),(.fld (.sz (.ext (.s 15) 0) 10) 4),(.fld (.sz (.ext (.s 15) 0) 10) 5),(.fld (.sz (.ext (.s 15) 0) 10) 6),(.fld (.sz (.ext (.s 15) 0) 10) 7),(.fld (.sz (.ext (.s 15) 0) 10) 8),(.fld (.sz (.ext (.s 15) 0) 10) 9)]),(5,.v (.ext (.s 15) 1))]⟩)
(.seq
(.reg ⟨[.call 16 [] (.id 46) false false [(.mm 1 0 10),(.c (.int .u64 (0))),(.c (.int .i64 (9)))]],[],[(6,.m [(.fld (.sz (.ext (.s 16) 0) 10) 0),(.fld (.sz (.ext (.s 16) 0) 10) 1),(.fld (.sz (.ext (.s 16) 0) 10) 2),(.fld (.sz (.ext (.s 16) 0) 10) 3),(.fld (.sz (.ext (.s 16) 0) 10) 4),(.fld (.sz (.ext (.s 16) 0) 10) 5),(.fld (.sz (.ext (.s 16) 0) 10) 6),(.fld (.sz (.ext (.s 16) 0) 10) 7),(.fld (.sz (.ext (.s 16) 0) 10) 8),(.fld (.sz (.ext (.s 16) 0) 10) 9)]),(7,.v (.ext (.s 16) 1))]⟩)
(.seq
(.reg ⟨[.call 17 [] (.id 46) false false [(.mm 1 0 10),(.c (.int .u64 (9223372036854775808))),(.c (.int .i64 (9)))]],[],[(8,.m [(.fld (.sz (.ext (.s 17) 0) 10) 0),(.fld (.sz (.ext (.s 17) 0) 10) 1),(.fld (.sz (.ext (.s 17) 0) 10) 2),(.fld (.sz (.ext (.s 17) 0) 10) 3),(.fld (.sz (.ext (.s 17) 0) 10) 4),(.fld (.sz (.ext (.s 17) 0) 10) 5),(.fld (.sz (.ext (.s 17) 0) 10) 6),(.fld (.sz (.ext (.s 17) 0) 10) 7),(.fld (.sz (.ext (.s 17) 0) 10) 8),(.fld (.sz (.ext (.s 17) 0) 10) 9)]),(9,.v (.ext (.s 17) 1))]⟩)
(.seq
(.reg ⟨[.call 18 [] (.id 49) false false [(.ag [(.c (.int .u64 (10))),(.c (.int .i64 (5))),(.c (.int .i64 (0))),(.c (.int .i64 (0))),(.c (.int .i64 (1))),(.c (.int .i64 (0))),(.c (.int .i64 (0)))]),(.ag [(.c (.int .u64 (20))),(.c (.int .i64 (9))),(.c (.int .i64 (0))),(.c (.int .i64 (0))),(.c (.int .i64 (2))),(.c (.int .i64 (0))),(.c (.int .i64 (0)))]),(.c (.int .u64 (29)))]],[],[(10,.v (.ext (.s 18) 0)),(11,.v (.ext (.s 18) 1))]⟩)
(.seq
(.reg ⟨[.call 19 [] (.id 49) false false [(.ag [(.c (.int .u64 (10))),(.c (.int .i64 (5))),(.c (.int .i64 (0))),(.c (.int .i64 (0))),(.c (.int .i64 (1))),(.c (.int .i64 (0))),(.c (.int .i64 (0)))]),(.ag [(.c (.int .u64 (20))),(.c (.int .i64 (9))),(.c (.int .i64 (0))),(.c (.int .i64 (0))),(.c (.int .i64 (0))),(.c (.int .i64 (0))),(.c (.int .i64 (0)))]),(.c (.int .u64 (29)))]],[],[(12,.v (.ext (.s 19) 0)),(13,.v (.ext (.s 19) 1))]⟩)
(.seq
(.reg ⟨[.lt 20 [] (.bin .eql (.s 3) (.c (.int .i64 (0)))),.call 21 [(20,true)] (.id 22) false false [(.mm 2 0 10),(.ag [(.c (.int .u64 (100))),(.c (.int .i64 (9))),(.c (.int .i64 (0))),(.c (.bool false)),(.c (.int .i64 (2))),(.lit [(.c (.int .u64 (2))),(.c (.int .u64 (6)))]),(.c (.sl [])),(.c (.sl [])),(.c (.sl [])),(.lit [(.c (.int .u64 (201)))])])],.lt 22 [] (.ite (.s 20) (.s 21) (.c (.bool false))),.lt 23 [] (.ite (.s 22) (.bin .eql (.s 5) (.c (.int .i64 (8)))) (.c (.bool false))),.lt 24 [] (.ite (.s 23) (.bin .eql (.s 7) (.c (.int .i64 (1)))) (.c (.bool false))),.lt 25 [] (.ite (.s 24) (.bin .eql (.s 9) (.c (.int .i64 (9)))) (.c (.bool false))),.lt 26 [] (.ite (.s 25) (.bin .eql (.s 11) (.c (.int .i64 (0)))) (.c (.bool false))),.lt 27 [] (.ite (.s 26) (.bin .eql (.s 10) (.c (.int .u64 (55)))) (.c (.bool false)))],[([(22,true)],(.bin .eql (.s 5) (.c (.int .i64 (8))))),([(23,true)],(.bin .eql (.s 7) (.c (.int .i64 (1))))),([(24,true)],(.bin .eql (.s 9) (.c (.int .i64 (9))))),([(25,true)],(.bin .eql (.s 11) (.c (.int .i64 (0))))),([(26,true)],(.bin .eql (.s 10) (.c (.int .u64 (55))))),([(27,true)],(.bin .eql (.s 13) (.c (.int .i64 (6)))))],[(0,.v (.ite (.s 27) (.bin .eql (.s 13) (.c (.int .i64 (6)))) (.c (.bool false))))]⟩)
.ret))))))))),
[(0,.v)]⟩
theorem c43:compFn Try.prog fresh sig [] [] Try.f43=some p43:=by kernel_rfl
end Vm
end
section
namespace Vm
open Go Go.Proofs
set_option maxRecDepth 100000
set_option maxHeartbeats 1000000
def MoveOk:Prop:= ∀(h:Hp) (base words:Int),h.ok→U64 base→Fit words→VC Try.prog 46 false [hpV h,vu base,vi words] (.tup [hpV (moveR h base words).1,vi (moveR h base words).2])
def ex20:Hp:=⟨10,5,0,false,2,[2,6],[],[],[],[21]⟩
def ey20:Hp:=⟨100,9,0,false,2,[2,6],[],[],[],[201]⟩
theorem ex20_ok:ex20.ok:=by refine⟨?_,?_,?_,?_,?_,?_,?_,?_,?_,?_,?_,?_,?_,?_⟩<;>simp[ex20,U64,Fit]
theorem ey20_ok:ey20.ok:=by refine⟨?_,?_,?_,?_,?_,?_,?_,?_,?_,?_,?_,?_,?_,?_⟩<;>simp[ey20,U64,Fit]
theorem awake20_vc(hM:MoveOk):VC Try.prog 43 false [] (.bool true):=by
 refine vc_of_wp Try.func43 follows (by kernel_rfl) c43 rfl ?_
 have r1:moveR ex20 100 9=(ey20,0):=by decide+kernel
 have r2:moveR ex20 100 4=(Hp.zero,8):=by decide+kernel
 have r3:moveR ex20 0 9=(Hp.zero,1):=by decide+kernel
 have r4:moveR ex20 9223372036854775808 9=(Hp.zero,9):=by decide+kernel
 have m1:=hM ex20 100 9 ex20_ok (by simp[U64]) (by simp[Fit])
 have m2:=hM ex20 100 4 ex20_ok (by simp[U64]) (by simp[Fit])
 have m3:=hM ex20 0 9 ex20_ok (by simp[U64]) (by simp[Fit])
 have m4:=hM ex20 9223372036854775808 9 ex20_ok (by simp[U64]) (by simp[Fit])
 rw[r1]at m1
 rw[r2]at m2
 rw[r3]at m3
 rw[r4]at m4
 have q1:ptrM ⟨10,5,0,0,1,0,0⟩ ⟨20,9,0,0,2,0,0⟩ 29=(55,0):=by decide+kernel
 have q2:ptrM ⟨10,5,0,0,1,0,0⟩ ⟨20,9,0,0,0,0,0⟩ 29=(0,6):=by decide+kernel
 have p1:=ptrM_vc (f:=⟨10,5,0,0,1,0,0⟩) (t:=⟨20,9,0,0,2,0,0⟩) (w:=29) (by simp[Ly.fits,U64,Fit]) (by simp[Ly.fits,U64,Fit]) (by simp[U64])
 have p2:=ptrM_vc (f:=⟨10,5,0,0,1,0,0⟩) (t:=⟨20,9,0,0,0,0,0⟩) (w:=29) (by simp[Ly.fits,U64,Fit]) (by simp[Ly.fits,U64,Fit]) (by simp[U64])
 rw[q1]at p1
 rw[q2]at p2
 have s1:=sameH_vc (b:=ey20) ey20_ok
 simp only[hpV,ex20,ey20,Hp.zero,lyV,List.map_cons,List.map_nil]at m1 m2 m3 m4 p1 p2 s1
 simp[p43]
 refine callW_of m1 (by simp) ?_
 simp
 refine callW_of m2 (by simp) ?_
 simp
 refine callW_of m3 (by simp) ?_
 simp
 refine callW_of m4 (by simp) ?_
 simp
 refine callW_of p1 (by simp) ?_
 simp
 refine callW_of p2 (by simp) ?_
 simp
 refine callW_of s1 (by simp) ?_
 simp
theorem stand_cap{x:Rw}(hx:x.ok)(cycle:Bool):(standB x cycle).h.cap≤200:=by
 obtain⟨hb1,hb2,hb3⟩:=mkG_bounds x.nodes x.roots
 have hb5:=mkG_nodes x.nodes x.roots
 unfold standB
 generalize mkG x.nodes x.roots=g at*
 have hsz: ∀n∈g.nodes,sizN n≤9:=fun n hn=>by have:=hb3 n hn;unfold sizN;omega
 obtain⟨s1,s2,s3,s4⟩:=stN_bound (x:=x) (cycle:=cycle) hsz g.nodes.length (Nat.le_refl _)
 dsimp only
 generalize stN x cycle g g.nodes.length=s at*
 have hsl:=pick_lt (c:=x.slack) (n:=12) (by omega)
 omega
theorem heapX_cap{x:Rw}(hx:x.ok):(heapX x).cap≤200:=by
 have key: ∀c,(fillH x (standB x c)).cap≤200:=fun c=>by
  obtain⟨h1,h2,h3⟩:=stand_ok hx c
  obtain⟨_,k2,_,_⟩:=fillH_ok (x:=x) h1 h2
  have e:(fillH x (standB x c)).cap=(standB x c).h.cap:=congrArg Ly.cap k2
  rw[e]
  exact stand_cap hx c
 unfold heapX stillX
 split
 ·exact key false
 ·exact key true
theorem place_mv{h:Hp}(hc:0≤h.cap∧h.cap≤4000){base more:Int}(hb:U64 base):MvOk h (placeB h base more) (placeN h more)∧U64 (placeB h base more)∧Fit (placeN h more)∧placeN h more≤h.cap+19:=by
 have hp:=pick_lt (c:=more) (n:=20) (by omega)
 unfold placeB placeN
 generalize pick more 20=q at*
 obtain⟨hb1,hb2⟩:=hb
 have hm1:0≤base.tmod (9223372036854775808-2*(h.cap+q))∧base.tmod (9223372036854775808-2*(h.cap+q)) <9223372036854775808-2*(h.cap+q):=by
  rw[Int.tmod_eq_emod_of_nonneg hb1]
  exact⟨Int.emod_nonneg _ (by omega),Int.emod_lt_of_pos _ (by omega)⟩
 refine⟨⟨?_,?_,?_,?_,?_⟩,⟨?_,?_⟩,⟨?_,?_⟩,?_⟩<;>omega
theorem movM_ok{h:Hp}(hh:h.ok){p:Pts}{base words:Int}(hb:U64 base)(hw:Fit words):(movM h p base words).ok:=by
 obtain⟨a1,a2,a3,a4,a5,a6,a7,a8,a9,b1,b2,b3,b4,b5⟩:=hh
 refine⟨hb,hw,a3,a4,?_,?_,?_,?_,?_,?_,?_,?_,?_,?_⟩
 ·show(mvL _ _ _ _).length≤_;rw[mvL_length];exact a5
 ·show(mvL _ _ _ _).length≤_;rw[mvL_length];exact a6
 ·show(mvL _ _ _ _).length≤_;rw[mvL_length];exact a7
 ·show(mvL _ _ _ _).length≤_;rw[mvL_length];exact a8
 ·show(h.roots.map _).length≤_;rw[List.length_map];exact a9
 ·exact mvL_u b1
 ·exact mvL_u b2
 ·exact mvL_u b3
 ·exact mvL_u b4
 ·intro w hw
  obtain⟨v,_,rfl⟩:=List.mem_map.1 hw
  exact ptrM_u _ _ _
end Vm
end
section
namespace Vm
open Go Go.Proofs
set_option maxRecDepth 100000
set_option maxHeartbeats 1000000
def prV(y:Int×Int):V:= .agg [vu y.1,vu y.2]
@[simp] theorem szV_prV(y:Int×Int):szV (prV y) 2=some (prV y):=rfl
@[simp] theorem prV_cells(y:Int×Int):(prV y).cells= [vu y.1,vu y.2]:=rfl
@[simp] theorem fldsV_prV(y:Int×Int):fldsV (prV y) 0 2=some (prV y):=rfl
@[simp] theorem fldV_prV0(y:Int×Int):fldV (prV y) 0=some (vu y.1):=rfl
@[simp] theorem fldV_prV1(y:Int×Int):fldV (prV y) 1=some (vu y.2):=rfl
@[simp] theorem sizeOk_prV(l:List (Int×Int)):sizeOk 2 (l.map prV)=true:=sizeOk_map fun _=>rfl
@[simp] theorem fldsV_lyV20(l:Ly):fldsV (lyV l) 0 7=some (lyV l):=rfl
theorem aiv0(a b:V):aiV (.agg [a,b]) (V.int IntKind.i64 0) 2 1 false=some a:=rfl
theorem aiv1(a b:V):aiV (.agg [a,b]) (V.int IntKind.i64 1) 2 1 false=some b:=rfl
theorem lay7_fits(base a b c d e f:Int):(lay7 base a b c d e f).fits:=by
 have h:=rightL_iff.1 (lay7_ok base a b c d e f).1
 refine⟨⟨?_,?_⟩,⟨?_,?_⟩,⟨?_,?_⟩,⟨?_,?_⟩,⟨?_,?_⟩,⟨?_,?_⟩,⟨?_,?_⟩⟩<;>omega
theorem moveR_okk{h:Hp}(hh:h.ok){base words:Int}(hb:U64 base)(hw:Fit words):(moveR h base words).1.ok:=by
 have hz:Hp.zero.ok:=by refine⟨?_,?_,?_,?_,?_,?_,?_,?_,?_,?_,?_,?_,?_,?_⟩<;>simp[Hp.zero,U64,Fit]
 unfold moveR
 split
 ·exact hz
 split
 ·exact hz
 split
 ·exact hz
 ·exact movM_ok hh hb hw
theorem law20Tells(hM:MoveOk){x:Rw}(hx:x.ok){which k w base words b:Int}{fr:Ly}{a1 a2 a3 a4 a5 a6:Int}(hwh:Fit which)(hk:Fit k)(hw:U64 w)(hb:U64 base)(hwo:Fit words)(hfr:fr.fits)(hb2:U64 b)
  (h1:Fit a1) (h2:Fit a2) (h3:Fit a3) (h4:Fit a4) (h5:Fit a5) (h6:Fit a6):
  VC Try.prog 12 false [rwV x,vi which,vi k,vu w,vu base,vi words,lyV fr,vu b,i6V a1 a2 a3 a4 a5 a6] (.bool true):=by
 refine vc_of_wp Try.func12 follows (by kernel_rfl) c12 rfl ?_
 have kl:=lay7_vc hb2 h1 h2 h3 h4 h5 h6
 have kl2:=lay7_vc hb h1 h2 h3 h4 h5 h6
 unfold i6V lyV at*
 simp[p12]
 refine callW_of (awake20_vc hM) (by simp) ?_
 simp
 have kh:=Heap_vc hx
 have ks:=Still_vc hx
 unfold rwV at kh ks
 refine callW_of kh (by simp) ?_
 obtain⟨ok1,hr1,hro⟩:=heapX_ok hx
 have hcap:=heapX_cap hx
 have ok2:=(stillX_ok hx).1
 have ok3:=turned_ok ok1 (fun k=>Nat.le_trans (right_len hr1 k) (by omega)) (by omega) (which:=which) hk hw
 have kt:=Turned_vc ok1 (w:=w) hwh hk
 generalize heapX x=own at*
 generalize stillX x=still at*
 generalize turned own which k w=tur at*
 have hc0:0≤own.cap:=(rightL_iff.1 hr1).1
 have q2:=Place_vc (h:=own) (by omega) hb hwo
 obtain⟨m2,u2,f2,c2⟩:=place_mv (h:=own) (by omega) (base:=base) (more:=words) hb
 have hw0:=m2.w0
 have hw1:=m2.w1
 have htop:=m2.top
 have hb0:=u2.1
 generalize placeB own base words=tb_ at*
 generalize placeN own words=room at*
 simp only[hpV]at q2 kt
 simp
 refine callW_of q2 (by simp) ?_
 simp
 refine callW_of ks (by simp) ?_
 simp
 refine callW_of kt (by simp) ?_
 simp
 have e0: [V.agg [vu own.base,vi own.cap,vi own.to,V.bool own.cycle,vi own.scan,.sl (own.low.map vu),.sl (own.high.map vu),.sl (own.old.map vu),.sl (own.far.map vu),.sl (own.roots.map vu)],hpV still,
  V.agg [vu tur.base,vi tur.cap,vi tur.to,V.bool tur.cycle,vi tur.scan,.sl (tur.low.map vu),.sl (tur.high.map vu),.sl (tur.old.map vu),.sl (tur.far.map vu),.sl (tur.roots.map vu)]]= [own,still,tur].map hpV:=rfl
 rw[e0]
 have hall: ∀h∈ [own,still,tur],h.ok:=by
  intro h hh
  simp at hh
  rcases hh with rfl|rfl|rfl<;>assumption
 have hl3: [own,still,tur].length=3:=rfl
 have ly:=refLayout_vc (h:=own)
 have oly:=ok1.lay
 generalize layH own=lo at*
 simp only[hpV,lyV]at ly
 generalize [own,still,tur]=hs at*
 clear e0 kt ks kh q2
 have v0:=wrap_u room (by omega) (by omega)
 have v1:=wrap_u (2*room) (by omega) (by omega)
 have v2:=wrap_u (9223372036854775808-2*room) (by omega) (by omega)
 have v3:=wrap_u (9223372036854775808-2*room+1) (by omega) (by omega)
 refine wpS_for0 17 3 (fun _=>True) (by simp) (by simp) trivial ?_
 intro i hi _
 have hwi:=wrap_i ((i:Int)+1) (by omega) (by omega)
 by_cases hlt:i<3
 case neg=>
  have:i=3:=by omega
  subst this
  simp
  refine callW_of kl (by simp) ?_
  simp
  refine callW_of kl2 (by simp) ?_
  simp
  refine callW_of ly (by simp) ?_
  simp
  have ofl:=(lay7_ok b a1 a2 a3 a4 a5 a6)
  have oln:=lay7_fits b a1 a2 a3 a4 a5 a6
  have olm:=lay7_fits base a1 a2 a3 a4 a5 a6
  generalize lay7 b a1 a2 a3 a4 a5 a6=l at*
  generalize lay7 base a1 a2 a3 a4 a5 a6=lb at*
  have e2: [V.agg [vu fr.base,vi fr.cap,vi fr.to,vi fr.low,vi fr.high,vi fr.old,vi fr.far],V.agg [vu lb.base,vi lb.cap,vi lb.to,vi lb.low,vi lb.high,vi lb.old,vi lb.far],V.agg [vu lo.base,vi lo.cap,vi lo.to,vi lo.low,vi lo.high,vi lo.old,vi lo.far]]= [fr,lb,lo].map lyV:=rfl
  have hall3: ∀m∈ [fr,lb,lo],m.fits:=by
   intro m hm
   simp at hm
   rcases hm with rfl|rfl|rfl<;>assumption
  have hl33: [fr,lb,lo].length=3:=rfl
  rw[e2]
  generalize [fr,lb,lo]=ms at*
  refine wpS_for0 35 3 (fun _=>True) (by simp) (by simp) trivial ?_
  intro i hi _
  have hwi:=wrap_i ((i:Int)+1) (by omega) (by omega)
  by_cases hlt:i<3
  case neg=>
   have:i=3:=by omega
   subst this
   simp
  have hx3:i<ms.length:=by omega
  have hxi:ms[i]? =some ms[i]:=List.getElem?_eq_getElem hx3
  have hmf:=hall3 _ (List.getElem_mem hx3)
  generalize ms[i]=m at*
  have hlt':(i:Int) <3:=by omega
  simp[hlt,hlt',hx3,hxi,at_of hxi,hwi]
  have hz2:=wrap_u64in (IntKind.u64.wrap (2*IntKind.u64.wrap (l.base+w.tmod 90))+1)
  generalize IntKind.u64.wrap (IntKind.u64.wrap (2*IntKind.u64.wrap (l.base+w.tmod 90))+1)=z2 at*
  have e3: [V.int IntKind.u64 w,V.int IntKind.u64 0,V.int IntKind.u64 z2]= [w,0,z2].map vu:=rfl
  rw[e3]
  have hall4: ∀v∈ [w,0,z2],U64 v:=by
   intro v hv
   simp at hv
   rcases hv with rfl|rfl|rfl<;>first|assumption|simp[U64]
  have hl4: [w,0,z2].length=3:=rfl
  generalize [w,0,z2]=vs at*
  refine wpS_for0 40 3 (fun _=>True) (by simp) (by simp) trivial ?_
  intro j hj _
  have hwj:=wrap_i ((j:Int)+1) (by omega) (by omega)
  by_cases hjt:j<3
  case neg=>
   have:j=3:=by omega
   subst this
   simp[hlt,hwi]
  have hjl:j<vs.length:=by omega
  have hxj:vs[j]? =some vs[j]:=List.getElem?_eq_getElem hjl
  have hu:=hall4 _ (List.getElem_mem hjl)
  generalize vs[j]=v at*
  have hjt':(j:Int) <3:=by omega
  have p1:=ptrM_vc oln hmf hu
  have p2:=refPtrM_vc oln hmf hu
  have p3:=ptrM_vc hmf oln hu
  have p4:=refPtrM_vc hmf oln hu
  simp only[lyV]at p1 p2 p3 p4
  simp[hjt,hjt',hjl,hxj,at_of hxj,hwj]
  refine callW_of p1 (by simp) ?_
  simp
  refine callW_of p2 (by simp) ?_
  simp
  refine callW_of p3 (by simp) ?_
  simp
  refine callW_of p4 (by simp) ?_
  simp[hwj]
 have hx3:i<hs.length:=by omega
 have hxi:hs[i]? =some hs[i]:=List.getElem?_eq_getElem hx3
 have hok:=hall _ (List.getElem_mem hx3)
 generalize hs[i]=h at*
 have hlt':(i:Int) <3:=by omega
 simp[hlt,hlt',hx3,hxi,at_of hxi,hwi,v0,v1,v2,v3]
 have e1: [V.agg [vu base,V.int IntKind.u64 0],V.agg [vu tb_,V.int IntKind.u64 1],V.agg [V.int IntKind.u64 (9223372036854775808-2*room),V.int IntKind.u64 1],V.agg [V.int IntKind.u64 (9223372036854775808-2*room+1),V.int IntKind.u64 1]]=
  [(base,0),(tb_,1),(9223372036854775808-2*room,1),(9223372036854775808-2*room+1,1)].map prV:=rfl
 rw[e1]
 have hall2: ∀y∈ [(base,(0:Int)),(tb_,1),(9223372036854775808-2*room,1),(9223372036854775808-2*room+1,1)],U64 y.1:=by
  intro y hy
  simp at hy
  rcases hy with rfl|rfl|rfl|rfl
  ·exact hb
  ·exact u2
  ·exact⟨by simp only;omega,by simp only;omega⟩
  ·exact⟨by simp only;omega,by simp only;omega⟩
 have hl4: [(base,(0:Int)),(tb_,1),(9223372036854775808-2*room,1),(9223372036854775808-2*room+1,1)].length=4:=rfl
 generalize [(base,(0:Int)),(tb_,1),(9223372036854775808-2*room,1),(9223372036854775808-2*room+1,1)]=ys at*
 refine wpS_for0 22 4 (fun _=>True) (by simp) (by simp) trivial ?_
 intro j hj _
 have hwj:=wrap_i ((j:Int)+1) (by omega) (by omega)
 by_cases hjt:j<4
 case neg=>
  have:j=4:=by omega
  subst this
  simp[hlt,hwi]
 have hjl:j<ys.length:=by omega
 have hxj:ys[j]? =some ys[j]:=List.getElem?_eq_getElem hjl
 have hu:=hall2 _ (List.getElem_mem hjl)
 generalize ys[j]=y at*
 have hjt':(j:Int) <4:=by omega
 have hn:Fit (if y.2=1 then room else words):=by split<;>assumption
 have fm1:=hM h y.1 (if y.2=1 then room else words) hok hu hn
 have fm2:=refMove_vc hok hu hn
 have fo:=moveR_okk hok hu hn
 have sm:=sameH_vc (b:=(moveR h y.1 (if y.2=1 then room else words)).1) fo
 by_cases hy:y.2=1
 all_goals
  simp only[hy,if_true,if_false]at fm1 fm2 hn sm
  simp only[hpV]at fm1 fm2 sm
  simp[hjt,hjt',hjl,hxj,at_of hxj,hwj,hy,aiv0,aiv1]
  refine callW_of fm1 (by simp[hpV]) ?_
  simp[aiv0,aiv1]
  refine callW_of fm2 (by simp[hpV]) ?_
  simp[aiv0,aiv1]
  refine callW_of sm (by simp[hpV]) ?_
  simp[hwj]
end Vm
end
section
namespace Vm
open Go Go.Proofs Go.RowKit
set_option maxHeartbeats 4000000
set_option maxRecDepth 100000
end Vm
namespace Vm
open Go Go.Proofs Go.RowKit
set_option maxHeartbeats 4000000
set_option maxRecDepth 100000
end Vm
namespace Vm
open Go Go.Proofs Go.RowKit
set_option maxHeartbeats 4000000
set_option maxRecDepth 100000
theorem zero_rd(w':World)(G:Nat→Prop): ∀j,j<5→Rd w' G (.sl ((lsH Hp.zero j).map vu)) (.slice none 0 0):=fun j hj=>by
 have:lsH Hp.zero j= []:=by
  unfold lsH Hp.zero
  split
  ·rfl
  split
  ·rfl
  split
  ·rfl
  split<;>rfl
 rw[this]
 exact .nil _ _ (by unfold maxLen;omega)
def zeroA:Array Value:= #[Value.int IntKind.u64 0,Value.int IntKind.i64 0,Value.int IntKind.i64 0,Value.bool false,Value.int IntKind.i64 0,Value.slice none 0 0,Value.slice none 0 0,Value.slice none 0 0,Value.slice none 0 0,Value.slice none 0 0]
theorem zero_new(w:World)(o:Obj):((w.alloc o).alloc (.cells #[Value.int IntKind.u64 0,Value.int IntKind.i64 0,Value.int IntKind.i64 0,Value.bool false,Value.int IntKind.i64 0,Value.slice none 0 0,Value.slice none 0 0,Value.slice none 0 0,Value.slice none 0 0,Value.slice none 0 0] 31)).heap[w.heap.size+1]? =some (.cells zeroA 31 (0,0)):=by
 have e:(w.alloc o).heap.size=w.heap.size+1:=by simp
 have:=heap_alloc_new (w.alloc o) (.cells zeroA 31)
 rw[e]at this
 exact this
theorem put10_blk{w2:World}{b:Nat}{T:TypeId}(hb:w2.heap[b]? =some (.cells zeroA T (0,0)))(v0 v1 v2 v3 v4 v5 v6 v7 v8 v9:Value):((((((((((w2.setCell ⟨b,0,none⟩ v0).setCell ⟨b,1,none⟩ v1).setCell ⟨b,2,none⟩ v2).setCell ⟨b,3,none⟩ v3).setCell ⟨b,4,none⟩ v4).setCell ⟨b,5,none⟩ v5).setCell ⟨b,6,none⟩ v6).setCell ⟨b,7,none⟩ v7).setCell ⟨b,8,none⟩ v8).setCell ⟨b,9,none⟩ v9).heap[b]? =some (.cells #[v0,v1,v2,v3,v4,v5,v6,v7,v8,v9] T (0,0)):=by
 unfold zeroA at hb
 simp[World.setCell,Array.getElem?_modify,hb]
theorem put10_cells{w2:World}{b:Nat}{T:TypeId}(hb:w2.heap[b]? =some (.cells zeroA T (0,0)))(v0 v1 v2 v3 v4 v5 v6 v7 v8 v9:Value)(j:Nat):((((((((((w2.setCell ⟨b,0,none⟩ v0).setCell ⟨b,1,none⟩ v1).setCell ⟨b,2,none⟩ v2).setCell ⟨b,3,none⟩ v3).setCell ⟨b,4,none⟩ v4).setCell ⟨b,5,none⟩ v5).setCell ⟨b,6,none⟩ v6).setCell ⟨b,7,none⟩ v7).setCell ⟨b,8,none⟩ v8).setCell ⟨b,9,none⟩ v9).cell? ⟨b,j,none⟩=(#[v0,v1,v2,v3,v4,v5,v6,v7,v8,v9]:Array Value)[j]? :=
 cell_of_row _ _ _ _ _ _ (put10_blk hb v0 v1 v2 v3 v4 v5 v6 v7 v8 v9)
theorem put10_below{B:Nat}{w0 w2:World}{b:Nat}(h:Below B w0 w2)(hb:B≤b)(v0 v1 v2 v3 v4 v5 v6 v7 v8 v9:Value):Below B w0 ((((((((((w2.setCell ⟨b,0,none⟩ v0).setCell ⟨b,1,none⟩ v1).setCell ⟨b,2,none⟩ v2).setCell ⟨b,3,none⟩ v3).setCell ⟨b,4,none⟩ v4).setCell ⟨b,5,none⟩ v5).setCell ⟨b,6,none⟩ v6).setCell ⟨b,7,none⟩ v7).setCell ⟨b,8,none⟩ v8).setCell ⟨b,9,none⟩ v9):=
 (((((((((h.setCell hb _).setCell hb _).setCell hb _).setCell hb _).setCell hb _).setCell hb _).setCell hb _).setCell hb _).setCell hb _).setCell hb _
theorem put10_other{w2:World}{b c:Nat}(hc:c≠b)(v0 v1 v2 v3 v4 v5 v6 v7 v8 v9:Value):((((((((((w2.setCell ⟨b,0,none⟩ v0).setCell ⟨b,1,none⟩ v1).setCell ⟨b,2,none⟩ v2).setCell ⟨b,3,none⟩ v3).setCell ⟨b,4,none⟩ v4).setCell ⟨b,5,none⟩ v5).setCell ⟨b,6,none⟩ v6).setCell ⟨b,7,none⟩ v7).setCell ⟨b,8,none⟩ v8).setCell ⟨b,9,none⟩ v9).heap[c]? =w2.heap[c]? :=by
 have: ¬b=c:=fun e=>hc e.symm
 simp[World.setCell,Array.getElem?_modify,this]
end Vm
namespace Vm
open Go Go.Proofs Go.RowKit
set_option maxHeartbeats 600000
set_option maxRecDepth 100000
end Vm
namespace Vm
open Go Go.Proofs Go.RowKit
set_option maxHeartbeats 4000000
set_option maxRecDepth 100000
end Vm
namespace Vm
open Go Go.Proofs Go.RowKit
set_option maxHeartbeats 1000000
set_option maxRecDepth 100000
theorem rd_int_inv{w:World}{G:Nat→Prop}{k:IntKind}{n:Int}{v:Value}(r:Rd w G (.int k n) v):v= .int k n:=by cases r;rfl
theorem rd_bool_inv{w:World}{G:Nat→Prop}{b:Bool}{v:Value}(r:Rd w G (.bool b) v):v= .bool b:=by cases r;rfl
theorem hp_src{w:World}{G:Nat→Prop}{h:Hp}{v:Value}(r:Rd w G (hpV h) v): ∃src,v=hpA h src∧ ∀j,j<5→Rd w G (.sl ((lsH h j).map vu)) (src j):=by
 cases r with
 |agg _ vs hl _ hr=>
  refine⟨fun j=>vs.getD (5+j) undef,?_,?_⟩
  ·have e0:=rd_int_inv (hr 0 _ rfl)
   have e1:=rd_int_inv (hr 1 _ rfl)
   have e2:=rd_int_inv (hr 2 _ rfl)
   have e3:=rd_bool_inv (hr 3 _ rfl)
   have e4:=rd_int_inv (hr 4 _ rfl)
   have hl':vs.size=10:=hl
   unfold hpA
   rw[←e0,←e1,←e2,←e3,←e4]
   congr 1
   apply Array.ext
   ·simp[hl']
   ·intro i h1 h2
    have hi:i<10:=by omega
    match i,hi with
    |0,_|1,_|2,_|3,_|4,_|5,_|6,_|7,_|8,_|9,_=>simp[Array.getD,hl']
  ·intro j hj
   match j,hj with
   |0,_=>exact hr 5 _ rfl
   |1,_=>exact hr 6 _ rfl
   |2,_=>exact hr 7 _ rfl
   |3,_=>exact hr 8 _ rfl
   |4,_=>exact hr 9 _ rfl
theorem hp_rd{w:World}{G:Nat→Prop}{h:Hp}{x:Nat→Value}(hr: ∀j,j<5→Rd w G (.sl ((lsH h j).map vu)) (x j)):Rd w G (hpV h) (hpA h x):=by
 refine .agg _ _ rfl (by simp[V.one]) ?_
 intro i y hy
 match i,hy with
 |0,hy=>cases hy;exact .int _ _
 |1,hy=>cases hy;exact .int _ _
 |2,hy=>cases hy;exact .int _ _
 |3,hy=>cases hy;exact .bool _
 |4,hy=>cases hy;exact .int _ _
 |5,hy=>cases hy;exact hr 0 (by omega)
 |6,hy=>cases hy;exact hr 1 (by omega)
 |7,hy=>cases hy;exact hr 2 (by omega)
 |8,hy=>cases hy;exact hr 3 (by omega)
 |9,hy=>cases hy;exact hr 4 (by omega)
end Vm
end
section
namespace Vm
open Go Go.Proofs Go.RowKit
set_option maxHeartbeats 2000000
set_option maxRecDepth 100000
theorem ptrM_calls{f t:Ly}(hf:f.fits)(ht:t.fits){x:Int}(hx:U64 x)(w:World):Calls Try.prog 49 #[lyA f,lyA t,.int .u64 x] w fun e w'=>e= .returned (.tuple #[.int .u64 (ptrM f t x).1,.int .i64 (ptrM f t x).2])∧Below w.heap.size w w':=
 calls_flat (ptrM_vc hf ht hx) rfl rfl w
theorem mvPs_far{f t:Ly}{ws out:List Int}{a n i:Nat}(h:i<a∨a+n≤i):(mvPs f t ws out a n)[i]? =out[i]? :=by
 induction n with
 |zero=>rfl
 |succ n ih=>
  rw[mvPs,List.getElem?_set,if_neg (by omega)]
  exact ih (by omega)
def lyC(l:Ly):Array Value:= #[.int .u64 l.base,.int .i64 l.cap,.int .i64 l.to,.int .i64 l.low,.int .i64 l.high,.int .i64 l.old,.int .i64 l.far]
theorem moved_walk(w:World){f t:Ly}(hf:f.fits)(ht:t.fits){ws:List Int}(hu: ∀x∈ws,U64 x)(hlen:ws.length≤1000000){lo m cap b B bf bt bw:Nat}(hl:lo+m≤ws.length)
  (ho:w.ownsRow B 24 1 (.slice (some ⟨b,0,none⟩) ws.length cap) ws.length (nums .u64 ws)) {T1 T2 T3:TypeId} (h1:w.heap[bf]? =some (.cells (lyC f) T1 (0,0))) (h2:w.heap[bt]? =some (.cells (lyC t) T2 (0,0)))
  (h3:w.heap[bw]? =some (.cells #[.int .i64 0] T3 (0,0))) (n1:bf≠b) (n2:bt≠b) (n3:bw≠b) (hz: ∀j,j<m→ ∀x,ws[lo+j]? =some x→(ptrM f t x).2=0):
  Calls Try.prog 80 #[.slice (some ⟨b,lo,none⟩) m (cap-lo),.pointer (some ⟨bf,0,none⟩),.pointer (some ⟨bt,0,none⟩),.pointer (some ⟨bw,0,none⟩)] w fun e w'=>
   e= .returned (.tuple #[])∧w.grownBy w' (some b)∧w'.ownsRow B 24 1 (.slice (some ⟨b,0,none⟩) ws.length cap) ws.length (nums .u64 (mvPs f t ws ws lo m)):=by
 have hcap:ws.length≤cap:=by
  rcases ho.2 with ⟨h',_⟩ | ⟨g',cap',cur,h',_,_,hc,_⟩
  ·simp at h'
  ·simp only[Value.slice.injEq,Option.some.injEq]at h'
   omega
 have H1:=Lib.hid h1
 have H2:=Lib.hid h2
 have H3:=Lib.hid h3
 have HO:=Lib.hid ho
 have HU:=Lib.hid hu
 clear h1 h2 h3 ho hu
 go_enter Try.func80,Try.ntmps80
 go_wp2
 go_loopw [11] (fun i wr=> ∃j:Nat,i= .int .i64 j∧j≤m∧Hid (w.grownBy wr (some b)∧wr.ownsRow B 24 1 (.slice (some ⟨b,0,none⟩) ws.length cap) ws.length (nums .u64 (mvPs f t ws ws lo j))))
  (fun i _=>m- (intOf i).toNat)
 case atStart=>exact⟨0,rfl,by omega,Lib.hid ⟨grown_of (Below.refl _ _) _,HO.out⟩⟩
 case round=>
  obtain⟨j,rfl,hj,HI⟩:=hrel
  by_cases hlt:j<m
  ·have hlt':((j:Int) <m)=True:=eq_true (by omega)
   obtain⟨x,hx⟩: ∃x,ws[lo+j]? =some x:=⟨_,List.getElem?_eq_getElem (by omega)⟩
   have hux:=HU.out x (List.mem_of_getElem? hx)
   have c0:wr.cell? ⟨b,lo+j,none⟩=some (.int .u64 x):=by
    have:=HI.out.2.cellAt (lo+j) (by omega)
    rw[this]
    simp[nums,mvPs_far (f:=f) (t:=t) (ws:=ws) (out:=ws) (a:=lo) (n:=j) (i:=lo+j) (by omega),hx]
   have f0:wr.frozen? ⟨b,lo+j,none⟩=false:=HI.out.2.frozenAt (lo+j)
   have b1:=(HI.out.1.block bf (heap_lt H1.out) (by simp[n1])).trans H1.out
   have b2:=(HI.out.1.block bt (heap_lt H2.out) (by simp[n2])).trans H2.out
   have b3:=(HI.out.1.block bw (heap_lt H3.out) (by simp[n3])).trans H3.out
   have p0:wr.cell? ⟨bf,0,none⟩=some (.int .u64 f.base):=by rw[cell_of_row _ _ _ _ _ _ b1];rfl
   have p1:wr.cell? ⟨bf,1,none⟩=some (.int .i64 f.cap):=by rw[cell_of_row _ _ _ _ _ _ b1];rfl
   have p2:wr.cell? ⟨bf,2,none⟩=some (.int .i64 f.to):=by rw[cell_of_row _ _ _ _ _ _ b1];rfl
   have p3:wr.cell? ⟨bf,3,none⟩=some (.int .i64 f.low):=by rw[cell_of_row _ _ _ _ _ _ b1];rfl
   have p4:wr.cell? ⟨bf,4,none⟩=some (.int .i64 f.high):=by rw[cell_of_row _ _ _ _ _ _ b1];rfl
   have p5:wr.cell? ⟨bf,5,none⟩=some (.int .i64 f.old):=by rw[cell_of_row _ _ _ _ _ _ b1];rfl
   have p6:wr.cell? ⟨bf,6,none⟩=some (.int .i64 f.far):=by rw[cell_of_row _ _ _ _ _ _ b1];rfl
   have q0:wr.cell? ⟨bt,0,none⟩=some (.int .u64 t.base):=by rw[cell_of_row _ _ _ _ _ _ b2];rfl
   have q1:wr.cell? ⟨bt,1,none⟩=some (.int .i64 t.cap):=by rw[cell_of_row _ _ _ _ _ _ b2];rfl
   have q2:wr.cell? ⟨bt,2,none⟩=some (.int .i64 t.to):=by rw[cell_of_row _ _ _ _ _ _ b2];rfl
   have q3:wr.cell? ⟨bt,3,none⟩=some (.int .i64 t.low):=by rw[cell_of_row _ _ _ _ _ _ b2];rfl
   have q4:wr.cell? ⟨bt,4,none⟩=some (.int .i64 t.high):=by rw[cell_of_row _ _ _ _ _ _ b2];rfl
   have q5:wr.cell? ⟨bt,5,none⟩=some (.int .i64 t.old):=by rw[cell_of_row _ _ _ _ _ _ b2];rfl
   have q6:wr.cell? ⟨bt,6,none⟩=some (.int .i64 t.far):=by rw[cell_of_row _ _ _ _ _ _ b2];rfl
   have hzx:=hz j hlt x hx
   have hc:=ptrM_calls hf ht hux
   unfold lyA at hc
   rw[hzx]at hc
   have HC:=Lib.hid hc
   have hstep:nums .u64 (mvPs f t ws ws lo (j+1))=(nums .u64 (mvPs f t ws ws lo j)).set (lo+j) (.int .u64 (ptrM f t x).1):=by
    rw[mvPs,nums_set,hx];rfl
   have hbl:b<wr.heap.size:=(HI.out.2.lt b rfl).2
   generalize (ptrM f t x).1=y at*
   clear hc b1 b2
   go_wp2_with (first
    | (go_at_call 49;refine(HC.out _).mono ?_;rintro e w1 ⟨rfl,hb1⟩
       have f1:w1.frozen? ⟨b,lo+j,none⟩=false:=(hb1.frozen (p:=⟨b,lo+j,none⟩) hbl).trans f0
       have c1:w1.cell? ⟨b,lo+j,none⟩=some (.int .u64 x):=(hb1.cell (p:=⟨b,lo+j,none⟩) hbl).trans c0
       have HB1:=Lib.hid hb1
       clear hb1))
   go_roundw
   case rel=>
    refine⟨j+1,by go_num,by omega,Lib.hid ?_⟩
    have hg:=grown_trans HI.out.1 (grown_of HB1.out (some b))
    have ho:=HI.out.2.kept (grown_of HB1.out none) (.inr (by simp[Value.ownBlock]))
    have hs:=ho.stored (lo+j) (.int .u64 y)
    rw[←hstep]at hs
    exact⟨grown_trans hg hs.2,hs.1⟩
   case measure=>simp[intOf];omega
  ·have:j=m:=by omega
   subst this
   go_wp2
   exact bodyPost_end (results_none rfl _ _ _) rfl ⟨rfl,HI.out.1,HI.out.2⟩
end Vm
end
section
namespace Vm
open Go Go.Proofs Go.RowKit
set_option maxHeartbeats 1000000
set_option maxRecDepth 100000
section
variable {w:World} {G:Nat→Prop} {h:Hp} {x:Nat→Value}
theorem right20_calls(hh:h.ok)(hG: ∀b,G b→b<w.heap.size)(hr: ∀j,j<5→Rd w G (.sl ((lsH h j).map vu)) (x j)):
  Calls Try.prog 30 #[hpA h x] w fun e w'=>e= .returned (.bool (rightR h))∧Below w.heap.size w w':=by
 refine Calls.mono ((CR_vc hh).2 w G _ hG rfl ?_) ?_
 ·intro i y hy
  match i,hy with
  |0,hy=>cases hy;exact hp_rd hr
 ·rintro e w' ⟨v,rfl,hb,hv⟩
  exact⟨by rw[rd_bool_inv hv],hb⟩
theorem Rd.slf20{l:List V}{v:Value}(h:Rd w G (.sl l) v): ∃a c,v= .slice a l.length c:=by
 cases h with
 |nil a cap _=>exact⟨a,cap,rfl⟩
 |sl l b o cap k vs=>exact⟨_,cap,rfl⟩
def ObsAt(w:World)(l:List Ob)(v:Value)(Gb:Nat→Prop):Prop:=
 ∃a c,v= .slice a l.length c∧(0<l.length→ ∃g o,a=some ⟨g,o,none⟩∧Gb g∧g<w.heap.size∧ ∀k b,l[k]? =some b→w.cell? ⟨g,o+k*5,none⟩=some (.int .i64 b.at_)∧w.cell? ⟨g,o+k*5+1,none⟩=some (.int .i64 b.size)∧
  w.cell? ⟨g,o+k*5+2,none⟩=some (.int .i64 b.ptrs)∧w.cell? ⟨g,o+k*5+3,none⟩=some (.bool b.gone)∧w.cell? ⟨g,o+k*5+4,none⟩=some (.int .u64 b.target))
theorem obsAt_of{l:List Ob}{v:Value}(r:Rd w G (.sl (l.map obV)) v)(hG: ∀b,G b→b<w.heap.size):ObsAt w l v G:=by
 have hfit: ∀x∈l.map obV,x.fits 5:=fun x hx=>by
  obtain⟨n,_,rfl⟩:=List.mem_map.1 hx
  exact⟨rfl,fun c hc=>by simp at hc;rcases hc with rfl|rfl|rfl|rfl|rfl<;>rfl⟩
 obtain⟨a,c,rfl⟩:=Rd.slf20 r
 refine⟨a,c,by simp,fun hl=> ?_⟩
 generalize hL:l.map obV=L at r hfit
 cases r with
 |nil=>simp at hL;subst hL;simp at hl
 |sl _ g o cap k vs h1 h2 h3 h4 h5 h6=>
  refine⟨g,o,rfl,h3,hG _ h3,fun i b hb=> ?_⟩
  have hil:i<l.length:=(List.getElem?_eq_some_iff.1 hb).1
  have hk:k=5:=by
   have hm:obV b∈L:=by rw[←hL];exact List.mem_map_of_mem (List.mem_of_getElem? hb)
   have e1:=(h4 _ hm).1
   simpa using e1.symm
  subst hk
  have hlen:L.length=l.length:=by rw[←hL];simp
  have hf: ∀j,j<5→(flat L)[i*5+j]? =(obV b).cells[j]? :=fun j hj=>flat_at hfit (by rw[←hL,List.getElem?_map,hb];rfl) j hj
  have hc: ∀j,j<5→w.cell? ⟨g,o+i*5+j,none⟩=some (vs (i*5+j)):=fun j hj=>by
   rw[Nat.add_assoc]
   exact h5 _ (by omega)
  have r0:=h6 _ _ ((hf 0 (by omega)).trans rfl)
  have r1:=h6 _ _ ((hf 1 (by omega)).trans rfl)
  have r2:=h6 _ _ ((hf 2 (by omega)).trans rfl)
  have r3:=h6 _ _ ((hf 3 (by omega)).trans rfl)
  have r4:=h6 _ _ ((hf 4 (by omega)).trans rfl)
  refine⟨?_,?_,?_,?_,?_⟩
  ·rw[←rd_int_inv r0];exact hc 0 (by omega)
  ·rw[←rd_int_inv r1];exact hc 1 (by omega)
  ·rw[←rd_int_inv r2];exact hc 2 (by omega)
  ·rw[←rd_bool_inv r3];exact hc 3 (by omega)
  ·rw[←rd_int_inv r4];exact hc 4 (by omega)
theorem obs20_calls{p:Pts}(hh:h.ok)(hr:Rt h p)(k:Nat)(hk:k<4)(hG: ∀b,G b→b<w.heap.size)(hx: ∀j,j<5→Rd w G (.sl ((lsH h j).map vu)) (x j)):
  Calls Try.prog 34 #[hpA h x,.int .i64 ((k+1:Nat):Int)] w fun e w'=> ∃v,e= .returned (.tuple #[v,.int .i64 0])∧Below w.heap.size w w'∧ObsAt w' (p.at ((k+1:Nat):Int)) v (fun b=>G b∨w.heap.size≤b):=by
 have ho:objsR h ((k+1:Nat):Int)=(p.at ((k+1:Nat):Int),0):=by
  unfold objsR
  rw[if_pos ⟨hr.right,by omega,by omega⟩,hr.parts];rfl
 have:=CO_vc hh (k:=((k+1:Nat):Int))
 rw[ho]at this
 refine Calls.mono (this.2 w G _ hG rfl ?_) ?_
 ·intro i y hy
  match i,hy with
  |0,hy=>cases hy;exact hp_rd hx
  |1,hy=>cases hy;exact .int _ _
 ·rintro e w' ⟨v,rfl,hb,hv⟩
  cases hv with
  |tup _ vs hl hrr=>
   have r0:=hrr 0 _ rfl
   have r1:=rd_int_inv (hrr 1 _ rfl)
   have hl2:vs.size=2:=hl
   refine⟨vs.getD 0 undef,?_,hb,?_⟩
   ·congr 2
    apply Array.ext
    ·simp[hl2]
    ·intro i h1 h2
     have hi:i<2:=by omega
     match i,hi with
     |0,_=>simp[Array.getD,hl2]
     |1,_=>simpa[Array.getD,hl2]using r1
   ·have:=obsAt_of (r0.mono (G':=fun b=>(G b∨w.heap.size≤b)∧b<w'.heap.size) (fun b hb'=>by
     rcases hb' with ⟨_,h1⟩ | ⟨h1,h2⟩
     ·exact⟨.inl h1,Nat.lt_of_lt_of_le (hG b h1) hb.size⟩
     ·exact⟨.inr h1,h2⟩)) (fun b hb'=>hb'.2)
    obtain⟨a,c,e,f⟩:=this
    exact⟨a,c,e,fun h0=>by obtain⟨g,o,q1,q2,q3,q4⟩:=f h0;exact⟨g,o,q1,q2.1,q3,q4⟩⟩
end
theorem moved_none(w:World)(a:Option Addr)(c:Nat)(v1 v2 v3:Value):
  Calls Try.prog 80 #[.slice a 0 c,v1,v2,v3] w fun e w'=>e= .returned (.tuple #[])∧Below w.heap.size w w':=by
 go_enter Try.func80,Try.ntmps80
 go_wp2
 go_loopw [11] (fun i wr=>i= .int .i64 0∧wr=w) (fun _ _=>0)
 case atStart=>exact⟨rfl,rfl⟩
 case round=>
  obtain⟨rfl,rfl⟩:=hrel
  go_wp2
  exact bodyPost_end (results_none rfl _ _ _) rfl ⟨rfl,Below.refl _ _⟩
structure MvI (B:Nat) (w wr:World) (bh br b8 bf bt bw:Nat) (f t:Ly) (h:Hp) (src x:Nat→Value) (base words:Int) (L:Nat→List Int):Prop where
 below:Below B w wr
 le:B≤bh∧B≤br∧B≤b8∧B≤bf∧B≤bt∧B≤bw
 hb:wr.heap[bh]? =some (.cells #[.int .u64 h.base,.int .i64 h.cap,.int .i64 h.to,.bool h.cycle,.int .i64 h.scan,src 0,src 1,src 2,src 3,src 4] 31 (0,0))
 rb:wr.heap[br]? =some (.cells zeroA 31 (0,0))
 nb:wr.heap[b8]? =some (.cells #[.int .u64 base,.int .i64 words,.int .i64 h.to,.bool h.cycle,.int .i64 h.scan,x 0,x 1,x 2,x 3,x 4] 31 (0,0))
 fb:wr.heap[bf]? =some (.cells (lyC f) 62 (0,0))
 tb:wr.heap[bt]? =some (.cells (lyC t) 62 (0,0))
 wb:wr.heap[bw]? =some (.cells #[.int .i64 0] 37 (0,0))
 len: ∀j,j<5→(L j).length=(lsH h j).length
 own: ∀j,j<5→wr.ownsRow B 24 1 (x j) (L j).length (nums .u64 (L j))
 apart: ∀i j,i<j→j<5→ ∀c,(x i).ownBlock=some c→(x j).ownBlock≠some c
 far: ∀j,j<5→ ∀c,(x j).ownBlock=some c→c≠bh∧c≠br∧c≠b8∧c≠bf∧c≠bt∧c≠bw
section
variable {B:Nat} {w wr:World} {bh br b8 bf bt bw:Nat} {f t:Ly} {h:Hp} {src x:Nat→Value} {base words:Int} {L:Nat→List Int}
theorem MvI.keep(m:MvI B w wr bh br b8 bf bt bw f t h src x base words L){w':World}(hb:Below wr.heap.size wr w'):MvI B w w' bh br b8 bf bt bw f t h src x base words L:=by
 have k: ∀c O,wr.heap[c]? =some O→w'.heap[c]? =some O:=fun c O hc=>(hb.block c (heap_lt hc)).trans hc
 have hB:B≤wr.heap.size:=Nat.le_trans m.le.1 (Nat.le_of_lt (heap_lt m.hb))
 exact⟨m.below.trans (hb.mono hB),m.le,k _ _ m.hb,k _ _ m.rb,k _ _ m.nb,k _ _ m.fb,k _ _ m.tb,k _ _ m.wb,m.len,fun j hj=>owns_block (m.own j hj) fun c hc=>hb.block c ((m.own j hj).lt c hc).2,m.apart,m.far⟩
theorem MvI.moved(m:MvI B w wr bh br b8 bf bt bw f t h src x base words L){w':World}{k:Nat}(hk:k<5){ws:List Int}(hl:ws.length=(L k).length){row:Option Nat}(hrow:(x k).ownBlock=row)(hg:wr.grownBy w' row)(ho:w'.ownsRow B 24 1 (x k) (L k).length (nums .u64 ws)):
  MvI B w w' bh br b8 bf bt bw f t h src x base words (fun j=>if j=k then ws else L j):=by
 have hB:B≤wr.heap.size:=Nat.le_trans m.le.1 (Nat.le_of_lt (heap_lt m.hb))
 have kk: ∀c O,wr.heap[c]? =some O→(∀d,(x k).ownBlock=some d→d≠c)→w'.heap[c]? =some O:=fun c O hc hn=>(hg.block c (heap_lt hc) (by rw[←hrow];intro e;exact hn c e.symm rfl)).trans hc
 refine⟨m.below.grown hg hB (fun r hr=>((m.own k hk).lt r (by rw[hrow];exact hr)).1),m.le,kk _ _ m.hb fun d hd=>(m.far k hk d hd).1,kk _ _ m.rb fun d hd=>(m.far k hk d hd).2.1,kk _ _ m.nb fun d hd=>(m.far k hk d hd).2.2.1,kk _ _ m.fb fun d hd=>(m.far k hk d hd).2.2.2.1,kk _ _ m.tb fun d hd=>(m.far k hk d hd).2.2.2.2.1,kk _ _ m.wb fun d hd=>(m.far k hk d hd).2.2.2.2.2,?_,?_,m.apart,m.far⟩
 ·intro j hj
  by_cases e:j=k
  ·subst e;simp only[if_pos];rw[hl];exact m.len j hj
  ·rw[if_neg e];exact m.len j hj
 ·intro j hj
  by_cases e:j=k
  ·subst e;simp only[if_pos];rw[hl];exact ho
  ·rw[if_neg e]
   refine owns_block (m.own j hj) fun c hc=>hg.block c ((m.own j hj).lt c hc).2 ?_
   rw[←hrow]
   intro e2
   rcases Nat.lt_or_gt_of_ne e with h1|h1
   ·exact m.apart j k h1 hk c hc e2.symm
   ·exact m.apart k j h1 hj c e2.symm hc
theorem MvI.congr(m:MvI B w wr bh br b8 bf bt bw f t h src x base words L){L':Nat→List Int}(e: ∀j,j<5→L' j=L j):MvI B w wr bh br b8 bf bt bw f t h src x base words L':=
 ⟨m.below,m.le,m.hb,m.rb,m.nb,m.fb,m.tb,m.wb,fun j hj=>by rw[e j hj];exact m.len j hj,fun j hj=>by rw[e j hj];exact m.own j hj,m.apart,m.far⟩
theorem MvI.rd(m:MvI B w wr bh br b8 bf bt bw f t h src x base words L){G:Nat→Prop}(hG: ∀b,G b→b<B)(hs: ∀j,j<5→Rd w G (.sl ((lsH h j).map vu)) (src j)): ∀j,j<5→Rd wr G (.sl ((lsH h j).map vu)) (src j):=
 fun j hj=>(hs j hj).keep (fun b hb=>m.below.block b (hG b hb)) fun _ q=>q
end
end Vm
end
section
namespace Vm
open Go Go.Proofs Go.RowKit
set_option maxHeartbeats 1000000
set_option maxRecDepth 100000
def QN(K:Act→World→Prop)(Q:Exit→Act→World→Prop):Exit→Act→World→Prop
 | .normal,a,w=>K a w
 | .ret,a,w=>Q .ret a w
 | .outgrown,a,w=>Q .outgrown a w
 |e,a,w=>Q e a w
section
variable {P:Program} {ops:Array Oper} {Q:Exit→Act→World→Prop}
theorem wpOp_list{i:Nat}{o:Oper}{K:Act→World→Prop}{a:Act}{w:World}(hi:ops[i]? =some o)(h:wpList P ops (QN K Q) [o] a w):wpOp P ops Q i K a w:=by
 unfold wpOp
 rw[hi]
 simp only
 unfold wpList at h
 split at h
 ·rename_i hw
  rw[if_pos hw]
  rcases h with h| ⟨h1,h2⟩
  ·left
   unfold Oper.wp at*
   generalize (execOp a.eval o).run P w=r at*
   cases r with
   |ok n w'=>
    cases n<;>simp only[Oper.upon]at h⊢ <;>
     first
      |exact h
      |exact Calls.mono h (fun e w'' he=>by cases e<;>exact he)
      |exact Rows.mono h (fun _ _ he=>he)
   |halt x w'=>cases x<;>simp only[Oper.upon]at h⊢ <;>exact h
  ·exact .inr ⟨h1,h2⟩
 ·rename_i hw
  rw[if_neg hw]
  exact h
theorem region_inv{id:Nat}{a0:Act}{w0:World}(hm:P.follows .mixedOrders=true)(hord: ∀(i:Nat) (o:Oper),ops[i]? =some o→ ∀e∈edgesOf o,e<i)(I:(Nat→Bool)→Act→World→Prop)
  (h0:I (fun _=>false) a0 {w0 with drawn:=w0.drawn+1})
  (hst: ∀(L:Nat→Bool) (i:Nat) (o:Oper) (a:Act) (w:World),ops[i]? =some o→L i=false→(∀j∈edgesOf o,L j=true)→I L a w→wpList P ops (QN (I (add L i)) Q) [o] a w)
  (hQ: ∀(L:Nat→Bool) (a:Act) (w:World),(∀i,i<ops.size→L i=true)→I L a w→Q .normal a w):(Code.region id ops true).wp P Q a0 w0:=by
 have hgd: ∀(listed:Array Bool) (i:Nat),listed.size=ops.size→i<ops.size→listed.getD i true=listed.getD i false:=by
  intro listed i h1 h2
  simp[Array.getD_eq_getD_getElem?,h1,h2]
 have hempty: ∀(listed:Array Bool),listed.size=ops.size→Region.ready .any ops listed= []→ ∀i,i<ops.size→listed.getD i false=true:=by
  intro listed hsz hr i
  induction i using Nat.strongRecOn with
  |_ i ih=>
   intro hi
   cases hl:listed.getD i false with
   |true=>rfl
   |false=>
    have:i∈Region.ready .any ops listed:=mem_ready.2 ⟨by rw[hgd listed i hsz hi];exact hl,ops[i],Array.getElem?_eq_getElem hi,fun e he hb=>by
     have hlt:=hord i ops[i] (Array.getElem?_eq_getElem hi) e.on (mem_edges he hb)
     exact ih e.on hlt (by omega)⟩
    rw[hr]at this;simp at this
 refine wp_region_any hm ?_
 have main: ∀(fuel:Nat) (listed:Array Bool) (a:Act) (w:World),listed.size=ops.size→unl ops.size (fun i=>listed.getD i false)≤fuel→I (fun i=>listed.getD i false) a w→wpAny P .any ops Q fuel listed a w:=by
  intro fuel
  induction fuel with
  |zero=>
   intro listed a w hsz hu hI
   have hall:=unl_zero (Nat.le_zero.1 hu)
   refine⟨?_,hQ _ a w hall hI⟩
   cases hr:Region.ready .any ops listed with
   |nil=>rfl
   |cons i r=>
    have:i∈Region.ready .any ops listed:=by rw[hr];simp
    obtain⟨h1,o,ho,_⟩:=mem_ready.1 this
    have hi:i<ops.size:=(Array.getElem?_eq_some_iff.1 ho).1
    rw[hgd listed i hsz hi,hall i hi]at h1
    cases h1
  |succ fuel ih=>
   intro listed a w hsz hu hI
   refine⟨fun hr=>hQ _ a w (hempty listed hsz hr) hI,fun i hi=> ?_⟩
   obtain⟨h1,o,ho,hall⟩:=mem_ready.1 hi
   have hlt:i<ops.size:=(Array.getElem?_eq_some_iff.1 ho).1
   rw[hgd listed i hsz hlt]at h1
   have hadd:(fun j=>(listed.setIfInBounds i true).getD j false)=add (fun i=>listed.getD i false) i:=by
    funext j
    simp only[add]
    by_cases hji:j=i
    ·subst hji
     have:j<listed.size:=by omega
     simp[Array.getD_eq_getD_getElem?,this]
    ·have:(listed.setIfInBounds i true).getD j false=listed.getD j false:=getD_set_ne false (Ne.symm hji)
     rw[this];simp[hji]
   have hs:=wpOp_list ho (hst _ i o a w ho h1 (fun j hj=>by
    obtain⟨ed,h2,h3,rfl⟩:=edges_mem hj
    exact hall ed h2 h3) hI)
   refine wpOp_mono (fun a' w' hI'=>ih _ a' w' (by simpa using hsz) ?_ (by rw[hadd];exact hI')) hs
   rw[hadd]
   have:=unl_add (n:=ops.size) (L:=fun i=>listed.getD i false) hlt h1
   omega
 have hL0:(fun i=>(Array.replicate ops.size false).getD i false)=fun _=>false:=by
  funext i
  simp only[Array.getD_eq_getD_getElem?,Array.getElem?_replicate]
  split<;>rfl
 refine main _ _ a0 _ (by simp) ?_ (by rw[hL0];exact h0)
 exact Nat.le_trans (List.length_filter_le _ _) (by simp)
end
def putL(a:Act)(l:List (Nat×Value)):Act:= {a with tmps:=l.foldl (fun t p=>t.setIfInBounds p.1 p.2) a.tmps}
def okOrd(ops:Array Oper):Bool:=(List.range ops.size).all fun i=>match ops[i]? with|some o=>(edgesOf o).all fun e=>decide (e<i) |none=>true
theorem ord_of{ops:Array Oper}(h:okOrd ops=true): ∀(i:Nat) (o:Oper),ops[i]? =some o→ ∀e∈edgesOf o,e<i:=by
 intro i o ho e he
 unfold okOrd at h
 rw[List.all_eq_true]at h
 have:=h i (by simpa using(Array.getElem?_eq_some_iff.1 ho).1)
 rw[ho]at this
 simp only[List.all_eq_true,decide_eq_true_eq]at this
 exact this e he
def put6(a:Act)(s1 s2 s3 s4 s5 s6:Nat)(v1 v2 v3 v4 v5 v6:Value):Act:=putL a [(s1,v1),(s2,v2),(s3,v3),(s4,v4),(s5,v5),(s6,v6)]
theorem region_put6{P:Program}{ops:Array Oper}{Q:Exit→Act→World→Prop}{id:Nat}{a0:Act}{w0:World}(s1 s2 s3 s4 s5 s6:Nat)(C:(Nat→Bool)→Value→Value→Value→Value→Value→Value→World→Prop)
  (hm:P.follows .mixedOrders=true) (hord:okOrd ops=true) (h0: ∃v1 v2 v3 v4 v5 v6,a0=put6 a0 s1 s2 s3 s4 s5 s6 v1 v2 v3 v4 v5 v6∧C (fun _=>false) v1 v2 v3 v4 v5 v6 {w0 with drawn:=w0.drawn+1})
  (hst: ∀(L:Nat→Bool) (i:Nat) (o:Oper) (v1 v2 v3 v4 v5 v6:Value) (w:World),ops[i]? =some o→L i=false→(∀j∈edgesOf o,L j=true)→C L v1 v2 v3 v4 v5 v6 w→
   wpList P ops (QN (fun a w=> ∃v1 v2 v3 v4 v5 v6,a=put6 a0 s1 s2 s3 s4 s5 s6 v1 v2 v3 v4 v5 v6∧C (add L i) v1 v2 v3 v4 v5 v6 w) Q) [o] (put6 a0 s1 s2 s3 s4 s5 s6 v1 v2 v3 v4 v5 v6) w)
  (hQ: ∀(L:Nat→Bool) (v1 v2 v3 v4 v5 v6:Value) (w:World),(∀i,i<ops.size→L i=true)→C L v1 v2 v3 v4 v5 v6 w→Q .normal (put6 a0 s1 s2 s3 s4 s5 s6 v1 v2 v3 v4 v5 v6) w):(Code.region id ops true).wp P Q a0 w0:=by
 refine region_inv hm (ord_of hord) (fun L a w=> ∃v1 v2 v3 v4 v5 v6,a=put6 a0 s1 s2 s3 s4 s5 s6 v1 v2 v3 v4 v5 v6∧C L v1 v2 v3 v4 v5 v6 w) h0 ?_ ?_
 ·rintro L i o _ w ho hi hj ⟨v1,v2,v3,v4,v5,v6,rfl,hC⟩
  exact hst L i o v1 v2 v3 v4 v5 v6 w ho hi hj hC
 ·rintro L _ w hL ⟨v1,v2,v3,v4,v5,v6,rfl,hC⟩
  exact hQ L v1 v2 v3 v4 v5 v6 w hL hC
def Z7:Array Value:= #[.int .u64 0,.int .i64 0,.int .i64 0,.int .i64 0,.int .i64 0,.int .i64 0,.int .i64 0]
structure RegC (WQ:World) (hA nA:Value) (f t:Ly) (T:TypeId) (L:Nat→Bool) (v0 v1 v2 v3 v4 v5:Value) (w:World):Prop where
 b:Below WQ.heap.size WQ w
 s0:L 0=true→v0=hA
 s1:L 1=true→v1=lyA f
 s2:L 2=true→v2=nA
 s3:L 3=true→v3=lyA t
 s4:L 4=true→ ∃c,v4= .pointer (some ⟨c,0,none⟩)∧WQ.heap.size≤c∧w.heap[c]? =some (.cells (if L 6=true then lyC f else Z7) T (0,0))
 s5:L 5=true→ ∃c,v5= .pointer (some ⟨c,0,none⟩)∧WQ.heap.size≤c∧w.heap[c]? =some (.cells (if L 7=true then lyC t else Z7) T (0,0))
 ne:L 4=true→L 5=true→v4≠v5
 c6:L 6=true→L 4=true
 c7:L 7=true→L 5=true
theorem add_self(L:Nat→Bool)(i:Nat):add L i i=true:=by simp[add]
theorem add_ne{L:Nat→Bool}{i j:Nat}(h:j≠i):add L i j=L j:=by simp[add,h]
section
variable {WQ:World} {hA nA:Value} {f t:Ly} {T:TypeId} {L:Nat→Bool} {v0 v1 v2 v3 v4 v5:Value} {w:World}
theorem RegC.st0(C:RegC WQ hA nA f t T L v0 v1 v2 v3 v4 v5 w):RegC WQ hA nA f t T (add L 0) hA v1 v2 v3 v4 v5 w:=by
 obtain⟨b,s0,s1,s2,s3,s4,s5,ne,c6,c7⟩:=C
 constructor<;>(try simp only[add_self,add_ne (L:=L) (i:=0) (j:=1) (by decide),add_ne (L:=L) (i:=0) (j:=2) (by decide),add_ne (L:=L) (i:=0) (j:=3) (by decide),add_ne (L:=L) (i:=0) (j:=4) (by decide),add_ne (L:=L) (i:=0) (j:=5) (by decide),add_ne (L:=L) (i:=0) (j:=6) (by decide),add_ne (L:=L) (i:=0) (j:=7) (by decide)])<;>first|assumption|exact fun _=>by assumption|exact fun _=>trivial|exact fun _=>trivial|exact fun _=>rfl
theorem RegC.st2(C:RegC WQ hA nA f t T L v0 v1 v2 v3 v4 v5 w):RegC WQ hA nA f t T (add L 2) v0 v1 nA v3 v4 v5 w:=by
 obtain⟨b,s0,s1,s2,s3,s4,s5,ne,c6,c7⟩:=C
 constructor<;>(try simp only[add_self,add_ne (L:=L) (i:=2) (j:=1) (by decide),add_ne (L:=L) (i:=2) (j:=0) (by decide),add_ne (L:=L) (i:=2) (j:=3) (by decide),add_ne (L:=L) (i:=2) (j:=4) (by decide),add_ne (L:=L) (i:=2) (j:=5) (by decide),add_ne (L:=L) (i:=2) (j:=6) (by decide),add_ne (L:=L) (i:=2) (j:=7) (by decide)])<;>first|assumption|exact fun _=>by assumption|exact fun _=>trivial|exact fun _=>trivial|exact fun _=>rfl
theorem RegC.later(C:RegC WQ hA nA f t T L v0 v1 v2 v3 v4 v5 w){w':World}(hb:Below w.heap.size w w'):RegC WQ hA nA f t T L v0 v1 v2 v3 v4 v5 w':=
 ⟨C.b.trans (hb.mono C.b.size),C.s0,C.s1,C.s2,C.s3,fun h=>by obtain⟨c,h1,h2,h3⟩:=C.s4 h;exact⟨c,h1,h2,(hb.block c (heap_lt h3)).trans h3⟩,fun h=>by obtain⟨c,h1,h2,h3⟩:=C.s5 h;exact⟨c,h1,h2,(hb.block c (heap_lt h3)).trans h3⟩,C.ne,C.c6,C.c7⟩
theorem RegC.st1(C:RegC WQ hA nA f t T L v0 v1 v2 v3 v4 v5 w){w':World}(hb:Below w.heap.size w w'):RegC WQ hA nA f t T (add L 1) v0 (lyA f) v2 v3 v4 v5 w':=by
 obtain⟨b,s0,s1,s2,s3,s4,s5,ne,c6,c7⟩:=C.later hb
 constructor<;>(try simp only[add_self,add_ne (L:=L) (i:=1) (j:=0) (by decide),add_ne (L:=L) (i:=1) (j:=2) (by decide),add_ne (L:=L) (i:=1) (j:=3) (by decide),add_ne (L:=L) (i:=1) (j:=4) (by decide),add_ne (L:=L) (i:=1) (j:=5) (by decide),add_ne (L:=L) (i:=1) (j:=6) (by decide),add_ne (L:=L) (i:=1) (j:=7) (by decide)])<;>first|assumption|exact fun _=>by assumption|exact fun _=>trivial|exact fun _=>trivial|exact fun _=>rfl
theorem RegC.st3(C:RegC WQ hA nA f t T L v0 v1 v2 v3 v4 v5 w){w':World}(hb:Below w.heap.size w w'):RegC WQ hA nA f t T (add L 3) v0 v1 v2 (lyA t) v4 v5 w':=by
 obtain⟨b,s0,s1,s2,s3,s4,s5,ne,c6,c7⟩:=C.later hb
 constructor<;>(try simp only[add_self,add_ne (L:=L) (i:=3) (j:=0) (by decide),add_ne (L:=L) (i:=3) (j:=2) (by decide),add_ne (L:=L) (i:=3) (j:=1) (by decide),add_ne (L:=L) (i:=3) (j:=4) (by decide),add_ne (L:=L) (i:=3) (j:=5) (by decide),add_ne (L:=L) (i:=3) (j:=6) (by decide),add_ne (L:=L) (i:=3) (j:=7) (by decide)])<;>first|assumption|exact fun _=>by assumption|exact fun _=>trivial|exact fun _=>trivial|exact fun _=>rfl
theorem RegC.st4(C:RegC WQ hA nA f t T L v0 v1 v2 v3 v4 v5 w)(h6:L 6=false):RegC WQ hA nA f t T (add L 4) v0 v1 v2 v3 (.pointer (some ⟨w.heap.size,0,none⟩)) v5 (w.alloc (.cells Z7 T)):=by
 have hn:L 5=true→Value.pointer (some ⟨w.heap.size,0,none⟩)≠v5:=fun h e=>by
  obtain⟨c,h1,_,h3⟩:=C.s5 h
  rw[h1]at e
  have:=heap_lt h3
  simp only[Value.pointer.injEq,Option.some.injEq,Addr.mk.injEq,and_true]at e
  omega
 have hz:=C.b.size
 obtain⟨b,s0,s1,s2,s3,s4,s5,ne,c6,c7⟩:=C.later ((Below.refl _ w).alloc (Nat.le_refl _) (.cells Z7 T))
 constructor<;>(try simp only[add_self,add_ne (L:=L) (i:=4) (j:=0) (by decide),add_ne (L:=L) (i:=4) (j:=2) (by decide),add_ne (L:=L) (i:=4) (j:=1) (by decide),add_ne (L:=L) (i:=4) (j:=3) (by decide),add_ne (L:=L) (i:=4) (j:=5) (by decide),add_ne (L:=L) (i:=4) (j:=6) (by decide),add_ne (L:=L) (i:=4) (j:=7) (by decide)])<;>first|assumption|exact fun _=>by assumption|exact fun _=>trivial|exact fun _=>hn|exact fun _=>⟨_,rfl,hz,by rw[h6];exact heap_alloc_new w _⟩
theorem RegC.st5(C:RegC WQ hA nA f t T L v0 v1 v2 v3 v4 v5 w)(h7:L 7=false):RegC WQ hA nA f t T (add L 5) v0 v1 v2 v3 v4 (.pointer (some ⟨w.heap.size,0,none⟩)) (w.alloc (.cells Z7 T)):=by
 have hn:L 4=true→v4≠Value.pointer (some ⟨w.heap.size,0,none⟩):=fun h e=>by
  obtain⟨c,h1,_,h3⟩:=C.s4 h
  rw[h1]at e
  have:=heap_lt h3
  simp only[Value.pointer.injEq,Option.some.injEq,Addr.mk.injEq,and_true]at e
  omega
 have hz:=C.b.size
 obtain⟨b,s0,s1,s2,s3,s4,s5,ne,c6,c7⟩:=C.later ((Below.refl _ w).alloc (Nat.le_refl _) (.cells Z7 T))
 constructor<;>(try simp only[add_self,add_ne (L:=L) (i:=5) (j:=0) (by decide),add_ne (L:=L) (i:=5) (j:=2) (by decide),add_ne (L:=L) (i:=5) (j:=1) (by decide),add_ne (L:=L) (i:=5) (j:=3) (by decide),add_ne (L:=L) (i:=5) (j:=4) (by decide),add_ne (L:=L) (i:=5) (j:=6) (by decide),add_ne (L:=L) (i:=5) (j:=7) (by decide)])<;>first|assumption|exact fun _=>by assumption|exact fun _=>trivial|exact fun h _=>hn h|exact fun _=>⟨_,rfl,hz,by rw[h7];exact heap_alloc_new w _⟩
def put7(w:World)(b:Nat)(l:Ly):World:=((((((w.setCell ⟨b,0,none⟩ (.int .u64 l.base)).setCell ⟨b,1,none⟩ (.int .i64 l.cap)).setCell ⟨b,2,none⟩ (.int .i64 l.to)).setCell ⟨b,3,none⟩ (.int .i64 l.low)).setCell ⟨b,4,none⟩ (.int .i64 l.high)).setCell ⟨b,5,none⟩ (.int .i64 l.old)).setCell ⟨b,6,none⟩ (.int .i64 l.far)
theorem put7_blk{b:Nat}{l:Ly}(hb:w.heap[b]? =some (.cells Z7 T (0,0))):(put7 w b l).heap[b]? =some (.cells (lyC l) T (0,0)):=by
 unfold Z7 at hb
 simp[put7,lyC,World.setCell,Array.getElem?_modify,hb]
theorem put7_other{b c:Nat}{l:Ly}(hc:c≠b):(put7 w b l).heap[c]? =w.heap[c]? :=by
 have: ¬b=c:=fun e=>hc e.symm
 simp[put7,World.setCell,Array.getElem?_modify,this]
theorem put7_below{B b:Nat}{l:Ly}(h:Below B WQ w)(hb:B≤b):Below B WQ (put7 w b l):=
 ((((((h.setCell hb _).setCell hb _).setCell hb _).setCell hb _).setCell hb _).setCell hb _).setCell hb _
theorem RegC.st6(C:RegC WQ hA nA f t T L v0 v1 v2 v3 v4 v5 w)(h4:L 4=true)(h6:L 6=false){c:Nat}(hc:v4= .pointer (some ⟨c,0,none⟩)):RegC WQ hA nA f t T (add L 6) v0 v1 v2 v3 v4 v5 (put7 w c f):=by
 obtain⟨b,s0,s1,s2,s3,s4,s5,ne,c6,c7⟩:=C
 obtain⟨c',e1,e2,e3⟩:=s4 h4
 rw[hc]at e1
 obtain rfl:c=c':=by simpa using e1
 rw[h6]at e3
 have r4:L 4=true→ ∃d,v4= .pointer (some ⟨d,0,none⟩)∧WQ.heap.size≤d∧(put7 w c f).heap[d]? =some (.cells (lyC f) T (0,0)):=fun _=>⟨c,hc,e2,put7_blk e3⟩
 have r5:L 5=true→ ∃d,v5= .pointer (some ⟨d,0,none⟩)∧WQ.heap.size≤d∧(put7 w c f).heap[d]? =some (.cells (if L 7=true then lyC t else Z7) T (0,0)):=fun h=>by
  obtain⟨d,g1,g2,g3⟩:=s5 h
  refine⟨d,g1,g2,(put7_other ?_).trans g3⟩
  rintro rfl
  exact ne h4 h (hc.trans g1.symm)
 have hb:=put7_below (l:=f) b e2
 constructor<;>(try simp only[add_self,if_true,add_ne (L:=L) (i:=6) (j:=0) (by decide),add_ne (L:=L) (i:=6) (j:=2) (by decide),add_ne (L:=L) (i:=6) (j:=1) (by decide),add_ne (L:=L) (i:=6) (j:=3) (by decide),add_ne (L:=L) (i:=6) (j:=4) (by decide),add_ne (L:=L) (i:=6) (j:=5) (by decide),add_ne (L:=L) (i:=6) (j:=7) (by decide)])<;>first|assumption|exact fun _=>by assumption|exact fun _=>trivial
theorem RegC.st7(C:RegC WQ hA nA f t T L v0 v1 v2 v3 v4 v5 w)(h5:L 5=true)(h7:L 7=false){c:Nat}(hc:v5= .pointer (some ⟨c,0,none⟩)):RegC WQ hA nA f t T (add L 7) v0 v1 v2 v3 v4 v5 (put7 w c t):=by
 obtain⟨b,s0,s1,s2,s3,s4,s5,ne,c6,c7⟩:=C
 obtain⟨c',e1,e2,e3⟩:=s5 h5
 rw[hc]at e1
 obtain rfl:c=c':=by simpa using e1
 rw[h7]at e3
 have r5:L 5=true→ ∃d,v5= .pointer (some ⟨d,0,none⟩)∧WQ.heap.size≤d∧(put7 w c t).heap[d]? =some (.cells (lyC t) T (0,0)):=fun _=>⟨c,hc,e2,put7_blk e3⟩
 have r4:L 4=true→ ∃d,v4= .pointer (some ⟨d,0,none⟩)∧WQ.heap.size≤d∧(put7 w c t).heap[d]? =some (.cells (if L 6=true then lyC f else Z7) T (0,0)):=fun h=>by
  obtain⟨d,g1,g2,g3⟩:=s4 h
  refine⟨d,g1,g2,(put7_other ?_).trans g3⟩
  rintro rfl
  exact ne h h5 (g1.trans hc.symm)
 have hb:=put7_below (l:=t) b e2
 constructor<;>(try simp only[add_self,if_true,add_ne (L:=L) (i:=7) (j:=0) (by decide),add_ne (L:=L) (i:=7) (j:=2) (by decide),add_ne (L:=L) (i:=7) (j:=1) (by decide),add_ne (L:=L) (i:=7) (j:=3) (by decide),add_ne (L:=L) (i:=7) (j:=4) (by decide),add_ne (L:=L) (i:=7) (j:=5) (by decide),add_ne (L:=L) (i:=7) (j:=6) (by decide)])<;>first|assumption|exact fun _=>by assumption|exact fun _=>trivial
end
end Vm
end
section
namespace Vm
open Go Go.Proofs Go.RowKit
set_option maxHeartbeats 1000000
set_option maxRecDepth 100000
section
variable {B:Nat} {w wr:World} {bh br b8 bf bt bw:Nat} {f t:Ly} {h:Hp} {src x:Nat→Value} {base words:Int} {L:Nat→List Int}
theorem MvI.kept(m:MvI B w wr bh br b8 bf bt bw f t h src x base words L){w':World}(hb:Below wr.heap.size wr w'){k:Nat}{ws:List Int}(e:ws=L k):MvI B w w' bh br b8 bf bt bw f t h src x base words (fun j=>if j=k then ws else L j):=
 (m.keep hb).congr fun j _=>by
  by_cases hj:j=k
  ·rw[if_pos hj,e,hj]
  ·rw[if_neg hj]
theorem MvI.call_all(m:MvI B w wr bh br b8 bf bt bw f t h src x base words L)(hf:f.fits)(ht:t.fits){k:Nat}(hk:k<5)(hu: ∀v∈L k,U64 v)(hlen:(L k).length≤1000000)(hz: ∀v∈L k,(ptrM f t v).2=0):
  Calls Try.prog 80 #[x k,.pointer (some ⟨bf,0,none⟩),.pointer (some ⟨bt,0,none⟩),.pointer (some ⟨bw,0,none⟩)] wr fun e w'=>
   e= .returned (.tuple #[])∧MvI B w w' bh br b8 bf bt bw f t h src x base words (fun j=>if j=k then mvPs f t (L k) (L k) 0 (L k).length else L j):=by
 have ho:=m.own k hk
 have hfar:=m.far k hk
 rcases ho.2 with ⟨hv,h0⟩ | ⟨g,cap,cur,hv,_⟩
 ·rw[hv]
  refine(moved_none wr none 0 _ _ _).mono ?_
  rintro e w' ⟨rfl,hb⟩
  exact⟨rfl,m.kept hb (by rw[h0];rfl)⟩
 ·rw[hv]at ho hfar⊢
  obtain⟨f1,f2,f3,f4,f5,f6⟩:=hfar g rfl
  have:=moved_walk wr hf ht hu hlen (lo:=0) (m:=(L k).length) (by omega) ho m.fb m.tb m.wb (Ne.symm f4) (Ne.symm f5) (Ne.symm f6) (fun j hj v hv'=>hz v (List.mem_of_getElem? hv'))
  rw[Nat.sub_zero]at this
  refine this.mono ?_
  rintro e w' ⟨rfl,hg,ho'⟩
  exact⟨rfl,m.moved hk (by simp) (by rw[hv];rfl) hg (by rw[hv];exact ho')⟩
theorem MvI.call_sub(m:MvI B w wr bh br b8 bf bt bw f t h src x base words L)(hf:f.fits)(ht:t.fits){k:Nat}(hk:k<5)(hu: ∀v∈L k,U64 v)(hlen:(L k).length≤1000000){g cap n:Nat}(hn:n=(L k).length)(hv:x k= .slice (some ⟨g,0,none⟩) n cap){lo mm:Nat}(hl:lo+mm≤n)
  (hz: ∀j,j<mm→ ∀v,(L k)[lo+j]? =some v→(ptrM f t v).2=0) {a:Option Addr} (ha:mm≠0→a=some ⟨g,lo,none⟩):
  Calls Try.prog 80 #[.slice a mm (cap-lo),.pointer (some ⟨bf,0,none⟩),.pointer (some ⟨bt,0,none⟩),.pointer (some ⟨bw,0,none⟩)] wr fun e w'=>
   e= .returned (.tuple #[])∧MvI B w w' bh br b8 bf bt bw f t h src x base words (fun j=>if j=k then mvPs f t (L k) (L k) lo mm else L j)∧wr.grownBy w' (some g):=by
 have ho:=m.own k hk
 have hfar:=m.far k hk
 subst hn
 rw[hv]at ho hfar
 obtain⟨f1,f2,f3,f4,f5,f6⟩:=hfar g rfl
 by_cases h0:mm=0
 ·subst h0
  refine(moved_none wr a (cap-lo) _ _ _).mono ?_
  rintro e w' ⟨rfl,hb⟩
  exact⟨rfl,m.kept hb rfl,grown_of hb _⟩
 ·rw[ha h0]
  refine(moved_walk wr hf ht hu hlen (lo:=lo) (m:=mm) hl ho m.fb m.tb m.wb (Ne.symm f4) (Ne.symm f5) (Ne.symm f6) hz).mono ?_
  rintro e w' ⟨rfl,hg,ho'⟩
  exact⟨rfl,m.moved hk (by simp) (by rw[hv];rfl) hg (by rw[hv];exact ho'),hg⟩
end
def MovePost(w:World)(r:Hp×Int)(e:Ending)(w':World):Prop:=
 ∃x,e= .returned (.tuple #[hpA r.1 x,.int .i64 r.2])∧Below w.heap.size w w'∧ ∀j,j<5→Rd w' (fun c=>w.heap.size≤c∧c<w'.heap.size) (.sl ((lsH r.1 j).map vu)) (x j)
end Vm
end
section
namespace Vm
open Go Go.Proofs Go.RowKit
set_option maxHeartbeats 40000000
set_option maxRecDepth 100000
def LkM(f t:Ly)(h:Hp)(p:Pts)(k:Nat):Nat→List Int:=fun j=>if j=4 then mvPs f t h.roots h.roots 0 h.roots.length else if j<k then mvL f t (lsH h j) (p.at ((j+1:Nat):Int))else lsH h j
def LkI(f t:Ly)(h:Hp)(p:Pts)(k i:Nat):Nat→List Int:=fun j=>if j=k then((p.at ((k+1:Nat):Int)).take i).foldl (mvOb f t (lsH h k)) (lsH h k)else LkM f t h p k j
theorem LkI0{f t:Ly}{h:Hp}{p:Pts}{k:Nat}(hk:k<4)(j:Nat):LkI f t h p k 0 j=LkM f t h p k j:=by
 unfold LkI LkM
 by_cases e:j=k
 ·subst e
  rw[if_pos rfl,if_neg (by omega),if_neg (by omega)];rfl
 ·rw[if_neg e]
theorem LkI1{f t:Ly}{h:Hp}{p:Pts}{k:Nat}(hk:k<4)(j:Nat):LkI f t h p k (p.at ((k+1:Nat):Int)).length j=LkM f t h p (k+1) j:=by
 unfold LkI LkM
 by_cases e:j=k
 ·subst e
  rw[if_pos rfl,if_neg (by omega),if_pos (by omega),List.take_length];rfl
 ·rw[if_neg e]
  by_cases e4:j=4
  ·rw[if_pos e4,if_pos e4]
  ·rw[if_neg e4,if_neg e4]
   by_cases h1:j<k
   ·rw[if_pos h1,if_pos (by omega)]
   ·rw[if_neg h1,if_neg (by omega)]
theorem LkI_next{f t:Ly}{h:Hp}{p:Pts}{k i:Nat}{o:Ob}(ho:(p.at ((k+1:Nat):Int))[i]? =some o){ws:List Int}(hw:ws=mvOb f t (lsH h k) (LkI f t h p k i k) o)(j:Nat):LkI f t h p k (i+1) j=if j=k then ws else LkI f t h p k i j:=by
 by_cases e:j=k
 ·subst e
  rw[if_pos rfl,hw]
  unfold LkI
  rw[if_pos rfl,if_pos rfl,List.take_add_one,ho,Option.toList_some,List.foldl_append];rfl
 ·rw[if_neg e]
  unfold LkI
  rw[if_neg e,if_neg e]
theorem LkI_u{f t:Ly}{h:Hp}(hh:h.ok){p:Pts}{k i:Nat}(hk:k<4):(∀v∈LkI f t h p k i k,U64 v)∧(LkI f t h p k i k).length≤1000000:=by
 unfold LkI
 rw[if_pos rfl]
 have h1:(∀v∈lsH h k,U64 v)∧(lsH h k).length≤1000000:=by
  have:k=0∨k=1∨k=2∨k=3:=by omega
  rcases this with rfl|rfl|rfl|rfl
  ·exact partH_ok hh 1
  ·exact partH_ok hh 2
  ·exact partH_ok hh 3
  ·exact partH_ok hh 4
 exact⟨mvL_u h1.1,by rw[mvL_len];exact h1.2⟩
theorem Move_ok(w:World)(G:Nat→Prop)(hG: ∀b,G b→b<w.heap.size)(h:Hp)(hh:h.ok)(src:Nat→Value)(hs: ∀j,j<5→Rd w G (.sl ((lsH h j).map vu)) (src j))(base words:Int)(hb0: ¬base=0)(hw0: ¬words<0)(hw1: ¬4096<words)(hwc: ¬words<h.cap)(hbo: ¬9223372036854775808-2*words<base)
  {p:Pts} (r:Rt h p) {f t:Ly} (hf:f=layH h) (ht:t=layH {h with base:=base,cap:=words}) (htf:t.fits) (hzr: ∀v∈h.roots,(ptrM f t v).2=0) (hmr:mvPs f t h.roots h.roots 0 h.roots.length=h.roots.map fun w=>(ptrM f t w).1)
  (hob: ∀k,k<4→ ∀(i:Nat) (o:Ob),(p.at ((k+1:Nat):Int))[i]? =some o→ ∀out,out=((p.at ((k+1:Nat):Int)).take i).foldl (mvOb f t (lsH h k)) (lsH h k)→ ∃a s m:Nat,o.at_=a∧o.size=s∧o.ptrs=m∧a+(s+1)≤(lsH h k).length∧s≤255∧m≤s∧
   (o.gone=true→mvPs f t out out a 1=mvOb f t (lsH h k) out o∧ ∀x,out[a]? =some x→(ptrM f t x).2=0)∧(o.gone=false→mvPs f t out out (a+1) m=mvOb f t (lsH h k) out o∧ ∀j,j<m→ ∀x,out[a+1+j]? =some x→(ptrM f t x).2=0)):
  Calls Try.prog 46 #[hpA h src,.int .u64 base,.int .i64 words] w (MovePost w (movM h p base words,0)):=by
 have w1:=wrap_u words (by omega) (by omega)
 have w2:=wrap_u (2*words) (by omega) (by omega)
 have w3:=wrap_u (9223372036854775808-2*words) (by omega) (by omega)
 have hR: ∀W,Below w.heap.size w W→Calls Try.prog 30 #[hpA h src] W fun e w'=>e= .returned (.bool true)∧Below W.heap.size W w':=fun W hb=>by
  have:=right20_calls (w:=W) (G:=G) (x:=src) hh (fun b hb'=>Nat.lt_of_lt_of_le (hG b hb') hb.size) (fun j hj=>(hs j hj).keep (fun b hb'=>hb.block b (hG b hb')) fun _ q=>q)
  rw[r.right]at this
  exact this
 have hO: ∀W,Below w.heap.size w W→Calls Try.prog 56 #[hpA h src] W (HOwnPost W h):=fun W hb=>
  Own_walk W G (fun b hb'=>Nat.lt_of_lt_of_le (hG b hb') hb.size) h hh src (fun j hj=>(hs j hj).keep (fun b hb'=>hb.block b (hG b hb')) fun _ q=>q)
 have HR:=Lib.hid hR
 have HO:=Lib.hid hO
 have HS:=Lib.hid hs
 have HH:=Lib.hid hh
 have HRT:=Lib.hid r
 have HB:=Lib.hid hob
 have HF:=Lib.hid hf
 have HT:=Lib.hid ht
 have HZ:=Lib.hid hzr
 have HM:=Lib.hid hmr
 have e0:(base==0)=false:=by simpa using hb0
 have e1:(words<0)=False:=eq_false hw0
 have e2:(4096<words)=False:=eq_false hw1
 have e3:(words<h.cap)=False:=eq_false hwc
 have e4:(9223372036854775808-2*words<base)=False:=eq_false hbo
 clear hR hO hs hh r hob hf ht hzr hmr
 unfold hpA
 go_enter Try.func46,Try.ntmps46
 go_upto_region 9 with (first
  | (go_at_call 30;refine(HR.out _ ?_).mono ?_;rotate_left;rintro e wa ⟨rfl,hba⟩
     have bA:wa.heap[w.heap.size]? =some (.cells #[.int .u64 h.base,.int .i64 h.cap,.int .i64 h.to,.bool h.cycle,.int .i64 h.scan,src 0,src 1,src 2,src 3,src 4] 31 (0,0)):=(hba.block _ (by simp;omega)).trans ((Below.heap_alloc _ _ _ (by simp)).trans (heap_alloc_new w _))
     have bZ:wa.heap[w.heap.size+1]? =some (.cells zeroA 31 (0,0)):=(hba.block _ (by simp)).trans (zero_new w _)
     have ya: ∀j,wa.cell? ⟨w.heap.size,j,none⟩=(#[.int .u64 h.base,.int .i64 h.cap,.int .i64 h.to,.bool h.cycle,.int .i64 h.scan,src 0,src 1,src 2,src 3,src 4]:Array Value)[j]? :=fun j=>cell_of_row _ _ _ _ _ _ bA
     have HBA:=Lib.hid hba
     have HRA:=Lib.hid (And.intro bA bZ)
     clear hba bA bZ)
  | (go_at_call 56;refine(HO.out _ ?_).mono ?_;rotate_left;rintro e wo ⟨x,rfl,hbo,hown⟩
     have HBO:=Lib.hid hbo
     have HOW:=Lib.hid hown
     obtain⟨a0,q0,E0⟩:=own_form (hown.own 0 (by omega))
     obtain⟨a1,q1,E1⟩:=own_form (hown.own 1 (by omega))
     obtain⟨a2,q2,E2⟩:=own_form (hown.own 2 (by omega))
     obtain⟨a3,q3,E3⟩:=own_form (hown.own 3 (by omega))
     obtain⟨a4,q4,E4⟩:=own_form (hown.own 4 (by omega))
     unfold hpA
     rw[E0,E1,E2,E3,E4]
     have HE:=Lib.hid (And.intro E0 (And.intro E1 (And.intro E2 (And.intro E3 E4))))
     clear hbo hown E0 E1 E2 E3 E4))
 case refine_1=>exact(Below.trans (((Below.refl _ w).alloc (Nat.le_refl _) _).alloc (by simp) _) (HBA.out.mono (by simp;omega)))
 case refine_1=>exact((Below.refl _ w).alloc (Nat.le_refl _) _).alloc (by simp) _
 have hWa:Below w.heap.size w wa:=Below.trans (((Below.refl _ w).alloc (Nat.le_refl _) _).alloc (by simp) _) (HBA.out.mono (by simp;omega))
 have hsa:w.heap.size+2≤wa.heap.size:=by have:=HBA.out.size;simp at this;omega
 have hso:wa.heap.size≤wo.heap.size:=HBO.out.size
 have hWo:Below w.heap.size w wo:=hWa.trans (HBO.out.mono (by omega))
 have bH:wo.heap[w.heap.size]? =some (.cells #[.int .u64 h.base,.int .i64 h.cap,.int .i64 h.to,.bool h.cycle,.int .i64 h.scan,src 0,src 1,src 2,src 3,src 4] 31 (0,0)):=(HBO.out.block _ (by omega)).trans HRA.out.1
 have bR:wo.heap[w.heap.size+1]? =some (.cells zeroA 31 (0,0)):=(HBO.out.block _ (by omega)).trans HRA.out.2
 obtain⟨WQ,hWQ⟩: ∃W,W=wo.alloc (.cells #[Value.int IntKind.u64 base,Value.int IntKind.i64 words,Value.int IntKind.i64 h.to,Value.bool h.cycle,Value.int IntKind.i64 h.scan,Value.slice a0 (lsH h 0).length q0,Value.slice a1 (lsH h 1).length q1,Value.slice a2 (lsH h 2).length q2,Value.slice a3 (lsH h 3).length q3,Value.slice a4 (lsH h 4).length q4] 31):=⟨_,rfl⟩
 rw[←hWQ]
 have hq:Below wo.heap.size wo WQ:=by rw[hWQ];exact(Below.refl _ _).alloc (Nat.le_refl _) _
 have hqs:WQ.heap.size=wo.heap.size+1:=by rw[hWQ];simp
 have bN:WQ.heap[wo.heap.size]? =some (.cells #[Value.int IntKind.u64 base,Value.int IntKind.i64 words,Value.int IntKind.i64 h.to,Value.bool h.cycle,Value.int IntKind.i64 h.scan,x 0,x 1,x 2,x 3,x 4] 31 (0,0)):=by
  rw[hWQ,HE.out.1,HE.out.2.1,HE.out.2.2.1,HE.out.2.2.2.1,HE.out.2.2.2.2]
  exact heap_alloc_new wo _
 have hWq:Below w.heap.size w WQ:=hWo.trans (hq.mono (by omega))
 have bH2:=(hq.block _ (by omega)).trans bH
 have bR2:=(hq.block _ (by omega)).trans bR
 have hLH: ∀W,Below WQ.heap.size WQ W→Calls Try.prog 54 #[hpA h src] W fun e w'=>e= .returned (lyA f)∧Below W.heap.size W w':=fun W hb=>by
  have:=Layout_calls (w:=W) (G:=G) (h:=h) (x:=src) (fun b hb'=>Nat.lt_of_lt_of_le (hG b hb') (Nat.le_trans hWq.size hb.size)) (fun j hj=>(HS.out j hj).keep (fun b hb'=>(hb.block b (Nat.lt_of_lt_of_le (hG b hb') hWq.size)).trans (hWq.block b (hG b hb'))) fun _ q=>q)
  rw[←HF.out]at this
  exact this
 have hLN: ∀W,Below WQ.heap.size WQ W→Calls Try.prog 54 #[.agg #[Value.int IntKind.u64 base,Value.int IntKind.i64 words,Value.int IntKind.i64 h.to,Value.bool h.cycle,Value.int IntKind.i64 h.scan,x 0,x 1,x 2,x 3,x 4]] W fun e w'=>e= .returned (lyA t)∧Below W.heap.size W w':=fun W hb=>by
  have:=Layout_calls (w:=W) (G:=fun b=>b<W.heap.size) (h:= {h with base:=base,cap:=words}) (x:=x) (fun b hb'=>hb') (fun j hj=>(own_rd (HOW.out.own j hj) (G:=fun b=>b<wo.heap.size) (fun c _ h=>h)).keep (fun b hb'=>(hb.block b (by omega)).trans (hq.block b hb')) fun b q=>by have:=hb.size;omega)
  rw[←HT.out]at this
  exact this
 rw[HE.out.1,HE.out.2.1,HE.out.2.2.1,HE.out.2.2.2.1,HE.out.2.2.2.2]at hLN
 have yb: ∀j,WQ.cell? ⟨w.heap.size,j,none⟩=(#[.int .u64 h.base,.int .i64 h.cap,.int .i64 h.to,.bool h.cycle,.int .i64 h.scan,src 0,src 1,src 2,src 3,src 4]:Array Value)[j]? :=fun j=>cell_of_row _ _ _ _ _ _ bH2
 have yn: ∀j,WQ.cell? ⟨wo.heap.size,j,none⟩=(#[Value.int IntKind.u64 base,Value.int IntKind.i64 words,Value.int IntKind.i64 h.to,Value.bool h.cycle,Value.int IntKind.i64 h.scan,Value.slice a0 (lsH h 0).length q0,Value.slice a1 (lsH h 1).length q1,Value.slice a2 (lsH h 2).length q2,Value.slice a3 (lsH h 3).length q3,Value.slice a4 (lsH h 4).length q4]:Array Value)[j]? :=fun j=>by
  rw[cell_of_row _ _ _ _ _ _ bN,HE.out.1,HE.out.2.1,HE.out.2.2.1,HE.out.2.2.2.1,HE.out.2.2.2.2]
 have HLH:=Lib.hid hLH
 have HLN:=Lib.hid hLN
 have HX:=Lib.hid (And.intro hWQ (And.intro bN (And.intro bH2 (And.intro bR2 (And.intro hWo (And.intro hWq hq))))))
 clear hLH hLN hWa hWo bH bR bN hWq bH2 bR2 hWQ hq
 refine region_put6 54 55 56 57 9 10 (RegC WQ (hpA h src) (.agg #[Value.int IntKind.u64 base,Value.int IntKind.i64 words,Value.int IntKind.i64 h.to,Value.bool h.cycle,Value.int IntKind.i64 h.scan,Value.slice a0 (lsH h 0).length q0,Value.slice a1 (lsH h 1).length q1,Value.slice a2 (lsH h 2).length q2,Value.slice a3 (lsH h 3).length q3,Value.slice a4 (lsH h 4).length q4]) f t 62) follows (by kernel_rfl) ⟨undef,undef,undef,undef,undef,undef,by rfl,?_⟩ ?_ ?_
 ·exact⟨(Below.refl _ _).drew,fun h=>(by cases h),fun h=>(by cases h),fun h=>(by cases h),fun h=>(by cases h),fun h=>(by cases h),fun h=>(by cases h),fun h=>(by cases h),fun h=>(by cases h),fun h=>(by cases h)⟩
 ·intro L i o v1 v2 v3 v4 v5 v6 W ho hi hj C
  have HC:=Lib.hid C
  have hz:WQ.heap.size≤W.heap.size:=C.b.size
  have zb: ∀j,W.cell? ⟨w.heap.size,j,none⟩=(#[.int .u64 h.base,.int .i64 h.cap,.int .i64 h.to,.bool h.cycle,.int .i64 h.scan,src 0,src 1,src 2,src 3,src 4]:Array Value)[j]? :=fun j=>(C.b.cell (p:=⟨w.heap.size,j,none⟩) (by show w.heap.size<WQ.heap.size;omega)).trans (yb j)
  have zn: ∀j,W.cell? ⟨wo.heap.size,j,none⟩=(#[Value.int IntKind.u64 base,Value.int IntKind.i64 words,Value.int IntKind.i64 h.to,Value.bool h.cycle,Value.int IntKind.i64 h.scan,Value.slice a0 (lsH h 0).length q0,Value.slice a1 (lsH h 1).length q1,Value.slice a2 (lsH h 2).length q2,Value.slice a3 (lsH h 3).length q3,Value.slice a4 (lsH h 4).length q4]:Array Value)[j]? :=fun j=>(C.b.cell (p:=⟨wo.heap.size,j,none⟩) (by show wo.heap.size<WQ.heap.size;omega)).trans (yn j)
  clear C
  have h8:i<8:=(Array.getElem?_eq_some_iff.1 ho).1
  simp only[put6,putL,List.foldl_cons,List.foldl_nil,List.setIfInBounds_toArray,List.set_cons_succ,List.set_cons_zero]
  have:i=0∨i=1∨i=2∨i=3∨i=4∨i=5∨i=6∨i=7:=by omega
  rcases this with rfl|rfl|rfl|rfl|rfl|rfl|rfl|rfl
  ·cases ho
   go_wp2
   simp only[QN]
   exact⟨_,v2,v3,v4,v5,v6,rfl,HC.out.st0⟩
  ·cases ho
   have e1:=HC.out.s0 (hj 0 (by decide))
   subst e1
   unfold hpA
   go_wp2_with (go_at_call 54;refine(HLH.out _ HC.out.b).mono ?_;rintro e wl ⟨rfl,hbl⟩;have HBL:=Lib.hid hbl;unfold lyA;clear hbl)
   simp only[QN]
   exact⟨_,_,v3,v4,v5,v6,rfl,HC.out.st1 HBL.out⟩
  ·cases ho
   go_wp2
   simp only[QN]
   exact⟨v1,v2,_,v4,v5,v6,rfl,HC.out.st2⟩
  ·cases ho
   have e1:=HC.out.s2 (hj 2 (by decide))
   subst e1
   unfold hpA
   go_wp2_with (go_at_call 54;refine(HLN.out _ HC.out.b).mono ?_;rintro e wl ⟨rfl,hbl⟩;have HBL:=Lib.hid hbl;unfold lyA;clear hbl)
   simp only[QN]
   exact⟨v1,v2,_,_,v5,v6,rfl,HC.out.st3 HBL.out⟩
  ·have h6:L 6=false:=by
    cases h:L 6 with
    |false=>rfl
    |true=>have:=HC.out.c6 h;rw[hi]at this;cases this
   cases ho
   go_wp2
   simp only[QN]
   exact⟨v1,v2,v3,v4,_,v6,rfl,HC.out.st4 h6⟩
  ·have h6:L 7=false:=by
    cases h:L 7 with
    |false=>rfl
    |true=>have:=HC.out.c7 h;rw[hi]at this;cases this
   cases ho
   go_wp2
   simp only[QN]
   exact⟨v1,v2,v3,v4,v5,_,rfl,HC.out.st5 h6⟩
  ·cases ho
   have e1:=HC.out.s1 (hj 1 (by decide))
   have h4:=hj 4 (by decide)
   obtain⟨c,e4,hc1,hc2⟩:=HC.out.s4 h4
   rw[hi]at hc2
   subst e1 e4
   have hc2:W.heap[c]? =some (.cells Z7 62 (0,0)):=hc2
   have y4: ∀j,W.cell? ⟨c,j,none⟩=Z7[j]? :=fun j=>cell_of_row _ _ _ _ _ _ hc2
   unfold Z7 at y4
   have y5: ∀j,W.frozen? ⟨c,j,none⟩=false:=fun j=>frz_of hc2
   clear hc2
   unfold lyA
   go_wp2
   simp only[QN]
   exact⟨v1,_,v3,v4,_,v6,rfl,HC.out.st6 h4 hi rfl⟩
  ·cases ho
   have e1:=HC.out.s3 (hj 3 (by decide))
   have h4:=hj 5 (by decide)
   obtain⟨c,e4,hc1,hc2⟩:=HC.out.s5 h4
   rw[hi]at hc2
   subst e1 e4
   have hc2:W.heap[c]? =some (.cells Z7 62 (0,0)):=hc2
   have y4: ∀j,W.cell? ⟨c,j,none⟩=Z7[j]? :=fun j=>cell_of_row _ _ _ _ _ _ hc2
   unfold Z7 at y4
   have y5: ∀j,W.frozen? ⟨c,j,none⟩=false:=fun j=>frz_of hc2
   clear hc2
   unfold lyA
   go_wp2
   simp only[QN]
   exact⟨v1,v2,v3,_,v5,_,rfl,HC.out.st7 h4 hi rfl⟩
 ·intro L v1 v2 v3 v4 v5 v6 W hL C
  simp only[put6,putL,List.foldl_cons,List.foldl_nil,List.setIfInBounds_toArray,List.set_cons_succ,List.set_cons_zero]
  have h4:=C.s4 (hL 4 (by decide))
  have h5:=C.s5 (hL 5 (by decide))
  have h45:=C.ne (hL 4 (by decide)) (hL 5 (by decide))
  rw[if_pos (hL 6 (by decide))]at h4
  rw[if_pos (hL 7 (by decide))]at h5
  obtain⟨b9,rfl,hb9,hc9⟩:=h4
  obtain⟨b10,rfl,hb10,hc10⟩:=h5
  have hne:b9≠b10:=fun e=>h45 (by rw[e])
  have hWQ:=C.b
  clear C hL h45
  go_upto_region 12 with fail
  have hm0:MvI w.heap.size w (W.alloc (.cells #[.int .i64 0] 37)) w.heap.size (w.heap.size+1) wo.heap.size b9 b10 W.heap.size f t h src x base words (lsH h):=by
   obtain⟨-,g2,g3,g4,g5,g6,g7⟩:=HX.out
   have hs1:=g6.size
   have hs2:=hWQ.size
   have hW:=g6.trans (hWQ.mono hs1)
   have ha:=(Below.refl W.heap.size W).alloc (Nat.le_refl _) (.cells #[.int .i64 0] 37)
   have kk: ∀c O,WQ.heap[c]? =some O→(W.alloc (.cells #[.int .i64 0] 37)).heap[c]? =some O:=fun c O hc=>(ha.block c (Nat.lt_of_lt_of_le (heap_lt hc) hs2)).trans ((hWQ.block c (heap_lt hc)).trans hc)
   refine⟨hW.alloc (by omega) _,⟨Nat.le_refl _,by omega,by omega,by omega,by omega,by omega⟩,kk _ _ g3,kk _ _ g4,kk _ _ g2,(ha.block _ (heap_lt hc9)).trans hc9,(ha.block _ (heap_lt hc10)).trans hc10,heap_alloc_new W _,fun j hj=>rfl,fun j hj=> ?_,HOW.out.apart,fun j hj c hc=> ?_⟩
   ·have ho:=HOW.out.own j hj
    exact owns_block (own_lower ho (by omega)) fun c hc=>by
     have:=(ho.lt c hc).2
     rw[ha.block c (by omega),hWQ.block c (by omega),g7.block c this]
   ·have:=(HOW.out.own j hj).lt c hc
    omega
  have HM0:=Lib.hid hm0
  have hcur:(W.alloc (.cells #[.int .i64 0] 37)).cell? ⟨wo.heap.size,9,none⟩=some (.slice a4 (lsH h 4).length q4):=by
   rw[cell_of_row _ _ _ _ _ _ hm0.nb,←HE.out.2.2.2.2];rfl
  obtain⟨W1,hW1⟩: ∃W1,W1=W.alloc (.cells #[.int .i64 0] 37):=⟨_,rfl⟩
  rw[←hW1]at HM0 hcur⊢
  clear hm0 hW1 HX hWQ hc9 hc10 HLH HLN
  have hff:f.fits:=by rw[HF.out];exact HH.out.lay
  have hc4:=HM0.out.call_all hff htf (k:=4) (by omega) HH.out.rootsW (by have:=HH.out.roots;exact this) HZ.out
  rw[HE.out.2.2.2.2]at hc4
  have HC4:=Lib.hid hc4
  clear hc4
  go_upto_region 13 with (go_at_call 80;refine HC4.out.mono ?_;rintro e w6 ⟨rfl,hm6⟩)
  have HM6:=Lib.hid hm6
  have nb6:=hm6.nb
  rw[HE.out.1,HE.out.2.1,HE.out.2.2.1,HE.out.2.2.2.1,HE.out.2.2.2.2]at nb6
  have y6: ∀j,w6.cell? ⟨wo.heap.size,j,none⟩=(#[Value.int IntKind.u64 base,Value.int IntKind.i64 words,Value.int IntKind.i64 h.to,Value.bool h.cycle,Value.int IntKind.i64 h.scan,Value.slice a0 (lsH h 0).length q0,Value.slice a1 (lsH h 1).length q1,Value.slice a2 (lsH h 2).length q2,Value.slice a3 (lsH h 3).length q3,Value.slice a4 (lsH h 4).length q4]:Array Value)[j]? :=fun j=>cell_of_row _ _ _ _ _ _ nb6
  clear hm6 nb6
  clear HM0 HC4 hcur
  go_wp2_with fail
  have hPk: ∀k:Nat,k<4→ ∀P,P=(#[Value.int IntKind.i64 1,Value.slice a0 (lsH h 0).length q0,Value.int IntKind.i64 2,Value.slice a1 (lsH h 1).length q1,Value.int IntKind.i64 3,Value.slice a2 (lsH h 2).length q2,Value.int IntKind.i64 4,Value.slice a3 (lsH h 3).length q3]:Array Value)→
    ∀W,(Instr.index 130 (.agg P) (.int .i64 (k:Int))).run Try.prog W= .ok (.agg #[.int .i64 ((k+1:Nat):Int),x k]) W:=by
   intro k hk P e W
   rw[e]
   have hT:Try.prog.underlying 130=some (.array 4 129):=by kernel_rfl
   have:k=0∨k=1∨k=2∨k=3:=by omega
   rcases this with rfl|rfl|rfl|rfl
   ·rw[HE.out.1];simp[Instr.index,asIntOf,run_underlying hT,part]
   ·rw[HE.out.2.1];simp[Instr.index,asIntOf,run_underlying hT,part]
   ·rw[HE.out.2.2.1];simp[Instr.index,asIntOf,run_underlying hT,part]
   ·rw[HE.out.2.2.2.1];simp[Instr.index,asIntOf,run_underlying hT,part]
  obtain⟨P,hP⟩: ∃P,P=(#[Value.int IntKind.i64 1,Value.slice a0 (lsH h 0).length q0,Value.int IntKind.i64 2,Value.slice a1 (lsH h 1).length q1,Value.int IntKind.i64 3,Value.slice a2 (lsH h 2).length q2,Value.int IntKind.i64 4,Value.slice a3 (lsH h 3).length q3]:Array Value):=⟨_,rfl⟩
  rw[←hP]
  have HP:=Lib.hid fun k hk=>hPk k hk P hP
  clear hPk hP y6
  go_loopw [77] (fun kv wr=> ∃k:Nat,kv= .int .i64 k∧k≤4∧Hid (MvI w.heap.size w wr w.heap.size (w.heap.size+1) wo.heap.size b9 b10 W.heap.size f t h src x base words (LkM f t h p k))) (fun kv _=>4- (intOf kv).toNat)
  case atStart=>
   refine⟨0,rfl,by omega,Lib.hid ((HM6.out.keep ((Below.refl _ w6).alloc (Nat.le_refl _) _)).congr fun j hj=> ?_)⟩
   unfold LkM
   by_cases h4:j=4
   ·rw[if_pos h4,if_pos h4];rfl
   ·rw[if_neg h4,if_neg h4,if_neg (by omega)]
  case round=>
   obtain⟨k,rfl,hk,HI⟩:=hrel
   by_cases hlt:k<4
   ·have hlt':((k:Int) <4)=True:=eq_true (by omega)
    have hix:=HP.out k hlt wr
    obtain⟨ak,qk,hxk⟩:=own_form (HI.out.own k (by omega))
    rw[HI.out.len k (by omega)]at hxk
    rw[hxk]at hix
    obtain⟨kk,hkk⟩: ∃n:Nat,k+1=n:=⟨_,rfl⟩
    rw[hkk]at hix
    go_upto_region 17 with fail
    have HI8:=Lib.hid ((HI.out.keep ((Below.refl _ wr).alloc (Nat.le_refl _) (.cells #[.int .i64 (kk:Int),.slice ak (lsH h k).length qk] 129))).congr fun j _=>LkI0 hlt j)
    have b15:=heap_alloc_new wr (.cells #[.int .i64 (kk:Int),.slice ak (lsH h k).length qk] 129)
    have hs15: ∀c,(x k).ownBlock=some c→c<wr.heap.size:=fun c hc=>((HI.out.own k (by omega)).lt c hc).2
    have hz8:(wr.alloc (.cells #[.int .i64 (kk:Int),.slice ak (lsH h k).length qk] 129)).heap.size=wr.heap.size+1:=by simp
    obtain⟨W8,hW8⟩: ∃W8,W8=wr.alloc (.cells #[.int .i64 (kk:Int),.slice ak (lsH h k).length qk] 129):=⟨_,rfl⟩
    rw[←hW8]at HI8 b15 hz8⊢
    clear hW8 hix
    have hcO:Calls Try.prog 34 #[hpA h src,.int .i64 (kk:Int)] W8 fun e w'=> ∃v,e= .returned (.tuple #[v,.int .i64 0])∧Below W8.heap.size W8 w'∧ObsAt w' (p.at (kk:Int)) v (fun b=>G b∨W8.heap.size≤b):=by
     have:=obs20_calls (w:=W8) (G:=G) (x:=src) HH.out HRT.out k hlt (fun b hb'=>Nat.lt_of_lt_of_le (hG b hb') HI8.out.below.size) (HI8.out.rd hG HS.out)
     rw[hkk]at this
     exact this
    have HCO:=Lib.hid hcO
    have yh8: ∀j,W8.cell? ⟨w.heap.size,j,none⟩=(#[.int .u64 h.base,.int .i64 h.cap,.int .i64 h.to,.bool h.cycle,.int .i64 h.scan,src 0,src 1,src 2,src 3,src 4]:Array Value)[j]? :=fun j=>cell_of_row _ _ _ _ _ _ HI8.out.hb
    have yp8: ∀j,W8.cell? ⟨wr.heap.size,j,none⟩=(#[.int .i64 (kk:Int),.slice ak (lsH h k).length qk]:Array Value)[j]? :=fun j=>cell_of_row _ _ _ _ _ _ b15
    have B15:=Lib.hid b15
    clear hcO b15
    go_upto_region 18 with (go_at_call 34;refine HCO.out.mono ?_;rintro e w9 ⟨vo,rfl,hb9',hobs⟩)
    obtain⟨ao,co,rfl,hobs⟩:=hobs
    have HB9:=Lib.hid hb9'
    have HI9:=Lib.hid (HI8.out.keep hb9')
    have B159:=Lib.hid ((hb9'.block _ (heap_lt B15.out)).trans B15.out)
    have HOB:=Lib.hid hobs
    clear hb9' hobs HCO yh8 yp8
    go_wp2_with fail
    generalize wr=w3 at*
    go_loopw [93] (fun iv wi=> ∃i:Nat,iv= .int .i64 i∧i≤(p.at (kk:Int)).length∧Hid (w9.grownBy wi (x k).ownBlock∧MvI w.heap.size w wi w.heap.size (w.heap.size+1) wo.heap.size b9 b10 W.heap.size f t h src x base words (LkI f t h p k i))) (fun iv _=>(p.at (kk:Int)).length- (intOf iv).toNat)
    case atStart=>exact⟨0,rfl,by omega,Lib.hid ⟨grown_of (Below.refl _ _) _,HI9.out⟩⟩
    case round=>
     obtain⟨i,rfl,hi,HK⟩:=hrel
     by_cases hil:i< (p.at (kk:Int)).length
     ·have hil':((i:Int) < ((p.at (kk:Int)).length:Int))=True:=eq_true (by omega)
      obtain⟨o,hx⟩: ∃o,(p.at (kk:Int))[i]? =some o:=⟨_,List.getElem?_eq_getElem hil⟩
      obtain⟨a,s,m,ea,es,em,hal,hs,hm,hgo,hng⟩:=HB.out k hlt i o (by rw[hkk];exact hx) _ rfl
      obtain⟨g,og,rfl,hGg,hgs,hcells⟩:=HOB.out (by omega)
      have hown: ∀c,(x k).ownBlock=some c→w.heap.size≤c∧c<w3.heap.size:=fun c hc=>(HI.out.own k (by omega)).lt c hc
      have hgi:wr.heap[g]? =w9.heap[g]? :=HK.out.1.block g hgs (fun e=>by
       have h1:=hown g e.symm
       rcases hGg with h2|h2
       ·have:=hG g h2;omega
       ·omega)
      have h15:wr.heap[w3.heap.size]? =some (.cells #[.int .i64 (kk:Int),.slice ak (lsH h k).length qk] 129 (0,0)):=(HK.out.1.block _ (heap_lt B159.out) (fun e=>by have h1:=hown _ e.symm;omega)).trans B159.out
      have y15: ∀j,wr.cell? ⟨w3.heap.size,j,none⟩=(#[.int .i64 (kk:Int),.slice ak (lsH h k).length qk]:Array Value)[j]? :=fun j=>cell_of_row _ _ _ _ _ _ h15
      obtain⟨c0,c1,c2,c3,c4⟩:=hcells i o hx
      have d0:wr.cell? ⟨g,og+i*5,none⟩=some (.int .i64 a):=by rw[World.cell?_of_block hgi,c0,ea]
      have d1:wr.cell? ⟨g,og+i*5+1,none⟩=some (.int .i64 s):=by rw[World.cell?_of_block hgi,c1,es]
      have d2:wr.cell? ⟨g,og+i*5+2,none⟩=some (.int .i64 m):=by rw[World.cell?_of_block hgi,c2,em]
      have d3:wr.cell? ⟨g,og+i*5+3,none⟩=some (.bool o.gone):=by rw[World.cell?_of_block hgi,c3]
      have d4:wr.cell? ⟨g,og+i*5+4,none⟩=some (.int .u64 o.target):=by rw[World.cell?_of_block hgi,c4]
      have hlenk:(lsH h k).length≤1000000:=lsH_len HH.out k
      have hg1:g<wr.heap.size:=Nat.lt_of_lt_of_le hgs HK.out.1.size
      have hg2:w3.heap.size<wr.heap.size:=heap_lt h15
      clear c0 c1 c2 c3 c4 hcells hgi h15
      go_upto_region 23 with fail
      have HK4:=Lib.hid (HK.out.2.keep ((Below.refl _ wr).alloc (Nat.le_refl _) (.cells #[.int .i64 (a:Int),.int .i64 (s:Int),.int .i64 (m:Int),.bool o.gone,.int .u64 o.target] 57)))
      have HG4:=Lib.hid (grown_trans HK.out.1 (grown_of ((Below.refl _ wr).alloc (Nat.le_refl _) (.cells #[.int .i64 (a:Int),.int .i64 (s:Int),.int .i64 (m:Int),.bool o.gone,.int .u64 o.target] 57)) _))
      have b19:=heap_alloc_new wr (.cells #[.int .i64 (a:Int),.int .i64 (s:Int),.int .i64 (m:Int),.bool o.gone,.int .u64 o.target] 57)
      have y15': ∀j,(wr.alloc (.cells #[.int .i64 (a:Int),.int .i64 (s:Int),.int .i64 (m:Int),.bool o.gone,.int .u64 o.target] 57)).cell? ⟨w3.heap.size,j,none⟩=(#[.int .i64 (kk:Int),.slice ak (lsH h k).length qk]:Array Value)[j]? :=fun j=>(World.cell?_alloc_lt _ _ _ hg2).trans (y15 j)
      clear d0 d1 d2 d3 d4 y15
      obtain⟨W4,hW4⟩: ∃u,u=wr.alloc (.cells #[.int .i64 (a:Int),.int .i64 (s:Int),.int .i64 (m:Int),.bool o.gone,.int .u64 o.target] 57):=⟨_,rfl⟩
      rw[←hW4]at HK4 HG4 b19 y15'⊢
      have y19: ∀j,W4.cell? ⟨wr.heap.size,j,none⟩=(#[.int .i64 (a:Int),.int .i64 (s:Int),.int .i64 (m:Int),.bool o.gone,.int .u64 o.target]:Array Value)[j]? :=fun j=>cell_of_row _ _ _ _ _ _ b19
      clear hW4 b19
      obtain⟨gk,rfl,hcap⟩: ∃gk,ak=some ⟨gk,0,none⟩∧(lsH h k).length≤qk:=by
       have ho:=HK.out.2.own k (by omega)
       have hlk:=HK.out.2.len k (by omega)
       rcases ho.2 with ⟨hv,h0⟩ | ⟨gg,cap,cur,hv,_,_,hc,_⟩
       ·omega
       ·rw[hxk]at hv
        simp only[Value.slice.injEq]at hv
        obtain⟨r1,r2,r3⟩:=hv
        exact⟨gg,r1,by omega⟩
      obtain⟨n1,hn1⟩: ∃n:Nat,a+1=n:=⟨_,rfl⟩
      obtain⟨n2,hn2⟩: ∃n:Nat,n1+m=n:=⟨_,rfl⟩
      have v1:IntKind.i64.wrap ((a:Int)+1)=(n1:Int):=by rw[wrap_i _ (by omega) (by omega)];omega
      have v2:IntKind.i64.wrap ((n1:Int)+m)=(n2:Int):=by rw[wrap_i _ (by omega) (by omega)];omega
      have hpl:(p.at (kk:Int)).length≤1000000:=by
       have po:=parts_ok HH.out HRT.out.parts
       have:=po.len (kk:Int)
       have:=(partH_ok HH.out (kk:Int)).2
       omega
      have v3:=wrap_i ((i:Int)+1) (by omega) (by omega)
      have hU:=LkI_u (f:=f) (t:=t) HH.out (p:=p) (i:=i) hlt
      have hLl:(lsH h k).length=(LkI f t h p k i k).length:=(HK.out.2.len k (by omega)).symm
      have hLe:LkI f t h p k i k=((p.at ((k+1:Nat):Int)).take i).foldl (mvOb f t (lsH h k)) (lsH h k):=by unfold LkI;rw[if_pos rfl]
      rw[←hLe]at hgo hng
      have HLl:=Lib.hid hLl
      clear hLl hLe
      cases hg:o.gone with
      |true=>
       obtain⟨hmv,hz⟩:=hgo hg
       rw[hg]at y19
       have hmv':mvPs f t (LkI f t h p k i k) (LkI f t h p k i k) a (n1-a)=mvOb f t (lsH h k) (LkI f t h p k i k) o:=by rw[show n1-a=1 by omega];exact hmv
       have hc:=HK4.out.call_sub hff htf (k:=k) (by omega) hU.1 hU.2 HLl.out hxk (lo:=a) (mm:=n1-a) (by omega) (fun j hj v hv=>hz v (by have e:j=0:=(by omega);subst e;exact hv)) (fun _=>rfl)
       rw[hmv']at hc
       have HC:=Lib.hid hc
       have q1: ¬qk=a:=by omega
       have q2:a≤qk:=by omega
       have q3:n1≤qk:=by omega
       have q4:a≤n1:=by omega
       clear hc hmv hmv'
       go_wp2_with (go_at_call 80;refine HC.out.mono ?_;rintro e w5 ⟨rfl,hm5,hg5⟩;have HM5:=Lib.hid (And.intro hm5 hg5);clear hm5 hg5)
       go_roundw
       case rel=>exact⟨i+1,by go_num,by omega,Lib.hid ⟨grown_trans HG4.out (by rw[hxk];exact HM5.out.2),HM5.out.1.congr fun j _=>LkI_next (by rw[hkk];exact hx) rfl j⟩⟩
       case measure=>simp[intOf];omega
      |false=>
       obtain⟨hmv,hz⟩:=hng hg
       rw[hg]at y19
       have hmv':mvPs f t (LkI f t h p k i k) (LkI f t h p k i k) n1 (n2-n1)=mvOb f t (lsH h k) (LkI f t h p k i k) o:=by rw[show n2-n1=m by omega,←hn1];exact hmv
       by_cases q1:qk=n1
       ·have hc:=HK4.out.call_sub hff htf (k:=k) (by omega) hU.1 hU.2 HLl.out hxk (lo:=n1) (mm:=n2-n1) (by omega) (fun j hj v hv=>hz j (by omega) v (by rw[hn1];exact hv)) (a:=some ⟨gk,0,none⟩) (fun h0=>by omega)
        rw[hmv']at hc
        have HC:=Lib.hid hc
        have q2:n1≤qk:=by omega
        have q3:n2≤qk:=by omega
        have q4:n1≤n2:=by omega
        have q5:(qk=n1)=True:=eq_true q1
        clear hc hmv hmv' q1
        go_wp2_with (go_at_call 80;refine HC.out.mono ?_;rintro e w5 ⟨rfl,hm5,hg5⟩;have HM5:=Lib.hid (And.intro hm5 hg5);clear hm5 hg5)
        go_roundw
        case rel=>exact⟨i+1,by go_num,by omega,Lib.hid ⟨grown_trans HG4.out (by rw[hxk];exact HM5.out.2),HM5.out.1.congr fun j _=>LkI_next (by rw[hkk];exact hx) rfl j⟩⟩
        case measure=>simp[intOf];omega
       ·have hc:=HK4.out.call_sub hff htf (k:=k) (by omega) hU.1 hU.2 HLl.out hxk (lo:=n1) (mm:=n2-n1) (by omega) (fun j hj v hv=>hz j (by omega) v (by rw[hn1];exact hv)) (a:=some ⟨gk,n1,none⟩) (fun h0=>rfl)
        rw[hmv']at hc
        have HC:=Lib.hid hc
        have q2:n1≤qk:=by omega
        have q3:n2≤qk:=by omega
        have q4:n1≤n2:=by omega
        clear hc hmv hmv'
        go_wp2_with (go_at_call 80;refine HC.out.mono ?_;rintro e w5 ⟨rfl,hm5,hg5⟩;have HM5:=Lib.hid (And.intro hm5 hg5);clear hm5 hg5)
        go_roundw
        case rel=>exact⟨i+1,by go_num,by omega,Lib.hid ⟨grown_trans HG4.out (by rw[hxk];exact HM5.out.2),HM5.out.1.congr fun j _=>LkI_next (by rw[hkk];exact hx) rfl j⟩⟩
        case measure=>simp[intOf];omega
     ·have hie:i=(p.at (kk:Int)).length:=by omega
      have hil':((i:Int) < ((p.at (kk:Int)).length:Int))=False:=eq_false (by omega)
      clear hil
      go_wp2
      go_roundw
      case rel=>exact⟨k+1,by go_num,by omega,Lib.hid (HK.out.2.congr fun j _=>by rw[hie,←hkk];exact(LkI1 hlt j).symm)⟩
      case measure=>simp[intOf];omega
   ·have hk4:k=4:=by omega
    subst hk4
    have nb:=HI.out.nb
    rw[HE.out.1,HE.out.2.1,HE.out.2.2.1,HE.out.2.2.2.1,HE.out.2.2.2.2]at nb
    have yn: ∀j,wr.cell? ⟨wo.heap.size,j,none⟩=(#[Value.int IntKind.u64 base,Value.int IntKind.i64 words,Value.int IntKind.i64 h.to,Value.bool h.cycle,Value.int IntKind.i64 h.scan,Value.slice a0 (lsH h 0).length q0,Value.slice a1 (lsH h 1).length q1,Value.slice a2 (lsH h 2).length q2,Value.slice a3 (lsH h 3).length q3,Value.slice a4 (lsH h 4).length q4]:Array Value)[j]? :=fun j=>cell_of_row _ _ _ _ _ _ nb
    have yw:wr.cell? ⟨W.heap.size,0,none⟩=some (.int .i64 0):=by rw[cell_of_row _ _ _ _ _ _ HI.out.wb];rfl
    have yz: ∀j,wr.cell? ⟨w.heap.size+1,j,none⟩=zeroA[j]? :=fun j=>cell_of_row _ _ _ _ _ _ HI.out.rb
    unfold zeroA at yz
    have fz: ∀j,wr.frozen? ⟨w.heap.size+1,j,none⟩=false:=fun j=>frz_of HI.out.rb
    clear nb
    go_wp2_with fail
    have y:=put10_cells HI.out.rb (.int .u64 base) (.int .i64 words) (.int .i64 h.to) (.bool h.cycle) (.int .i64 h.scan) (.slice a0 (lsH h 0).length q0) (.slice a1 (lsH h 1).length q1) (.slice a2 (lsH h 2).length q2) (.slice a3 (lsH h 3).length q3) (.slice a4 (lsH h 4).length q4)
    refine bodyPost_ret (v:= .tuple #[.agg #[Value.int IntKind.u64 base,Value.int IntKind.i64 words,Value.int IntKind.i64 h.to,Value.bool h.cycle,Value.int IntKind.i64 h.scan,Value.slice a0 (lsH h 0).length q0,Value.slice a1 (lsH h 1).length q1,Value.slice a2 (lsH h 2).length q2,Value.slice a3 (lsH h 3).length q3,Value.slice a4 (lsH h 4).length q4],.int .i64 0]) ?_ rfl ?_
    ·simp[results,Try.results46,go_sem,y]
    ·refine⟨x,?_,put10_below HI.out.below (by omega) _ _ _ _ _ _ _ _ _ _,fun j hj=> ?_⟩
     ·unfold hpA
      rw[HE.out.1,HE.out.2.1,HE.out.2.2.1,HE.out.2.2.2.1,HE.out.2.2.2.2]
      rfl
     ·have ho:=HI.out.own j hj
      have hls:lsH (movM h p base words) j=LkM f t h p 4 j:=by
       have:j=0∨j=1∨j=2∨j=3∨j=4:=by omega
       rcases this with rfl|rfl|rfl|rfl|rfl
       ·rw[HF.out,HT.out];rfl
       ·rw[HF.out,HT.out];rfl
       ·rw[HF.out,HT.out];rfl
       ·rw[HF.out,HT.out];rfl
       ·show _=mvPs f t h.roots h.roots 0 h.roots.length
        rw[HM.out,HF.out,HT.out];rfl
      rw[hls]
      exact own_rd (owns_block ho fun c hc=>put10_other (HI.out.far j hj c hc).2.1 _ _ _ _ _ _ _ _ _ _) fun c h1 h2=>⟨h1,h2⟩
end Vm
end
section
namespace Vm
open Go Go.Proofs Go.RowKit
set_option maxHeartbeats 4000000
set_option maxRecDepth 100000
theorem Move_e1(w:World)(G:Nat→Prop)(hG: ∀b,G b→b<w.heap.size)(h:Hp)(hh:h.ok)(src:Nat→Value)(hs: ∀j,j<5→Rd w G (.sl ((lsH h j).map vu)) (src j))(base words:Int)(hb0:base=0):
  Calls Try.prog 46 #[hpA h src,.int .u64 base,.int .i64 words] w (MovePost w (Hp.zero,1)):=by
 have e0:(base==0)=true:=by simpa using hb0
 clear hs
 unfold hpA
 go_enter Try.func46,Try.ntmps46
 go_wp2
 have hz:=fun j=>cell_of_row _ _ j _ _ _ (zero_new w (.cells #[.int .u64 h.base,.int .i64 h.cap,.int .i64 h.to,.bool h.cycle,.int .i64 h.scan,src 0,src 1,src 2,src 3,src 4] 31))
 unfold zeroA at hz
 refine bodyPost_ret (v:= .tuple #[.agg zeroA,.int .i64 1]) ?_ rfl ?_
 ·simp[results,Try.results46,go_sem,hz,zeroA]
 ·exact⟨fun _=> .slice none 0 0,rfl,((Below.refl _ w).alloc (Nat.le_refl _) _).alloc (by simp) _,zero_rd _ _⟩
theorem Move_e2(w:World)(G:Nat→Prop)(hG: ∀b,G b→b<w.heap.size)(h:Hp)(hh:h.ok)(src:Nat→Value)(hs: ∀j,j<5→Rd w G (.sl ((lsH h j).map vu)) (src j))(base words:Int)(hb0: ¬base=0)(hw0:words<0):
  Calls Try.prog 46 #[hpA h src,.int .u64 base,.int .i64 words] w (MovePost w (Hp.zero,1)):=by
 have e0:(base==0)=false:=by simpa using hb0
 have e1:(words<0)=True:=eq_true hw0
 clear hs
 unfold hpA
 go_enter Try.func46,Try.ntmps46
 go_wp2
 have hz:=fun j=>cell_of_row _ _ j _ _ _ (zero_new w (.cells #[.int .u64 h.base,.int .i64 h.cap,.int .i64 h.to,.bool h.cycle,.int .i64 h.scan,src 0,src 1,src 2,src 3,src 4] 31))
 unfold zeroA at hz
 refine bodyPost_ret (v:= .tuple #[.agg zeroA,.int .i64 1]) ?_ rfl ?_
 ·simp[results,Try.results46,go_sem,hz,zeroA]
 ·exact⟨fun _=> .slice none 0 0,rfl,((Below.refl _ w).alloc (Nat.le_refl _) _).alloc (by simp) _,zero_rd _ _⟩
theorem Move_e3(w:World)(G:Nat→Prop)(hG: ∀b,G b→b<w.heap.size)(h:Hp)(hh:h.ok)(src:Nat→Value)(hs: ∀j,j<5→Rd w G (.sl ((lsH h j).map vu)) (src j))(base words:Int)(hb0: ¬base=0)(hw0: ¬words<0)(hw1:4096<words):
  Calls Try.prog 46 #[hpA h src,.int .u64 base,.int .i64 words] w (MovePost w (Hp.zero,1)):=by
 have e0:(base==0)=false:=by simpa using hb0
 have e1:(words<0)=False:=eq_false hw0
 have e2:(4096<words)=True:=eq_true hw1
 clear hs
 unfold hpA
 go_enter Try.func46,Try.ntmps46
 go_wp2
 have hz:=fun j=>cell_of_row _ _ j _ _ _ (zero_new w (.cells #[.int .u64 h.base,.int .i64 h.cap,.int .i64 h.to,.bool h.cycle,.int .i64 h.scan,src 0,src 1,src 2,src 3,src 4] 31))
 unfold zeroA at hz
 refine bodyPost_ret (v:= .tuple #[.agg zeroA,.int .i64 1]) ?_ rfl ?_
 ·simp[results,Try.results46,go_sem,hz,zeroA]
 ·exact⟨fun _=> .slice none 0 0,rfl,((Below.refl _ w).alloc (Nat.le_refl _) _).alloc (by simp) _,zero_rd _ _⟩
theorem Move_e4(w:World)(G:Nat→Prop)(hG: ∀b,G b→b<w.heap.size)(h:Hp)(hh:h.ok)(src:Nat→Value)(hs: ∀j,j<5→Rd w G (.sl ((lsH h j).map vu)) (src j))(base words:Int)(hb0: ¬base=0)(hw0: ¬words<0)(hw1: ¬4096<words)(hr:rightR h=false):
  Calls Try.prog 46 #[hpA h src,.int .u64 base,.int .i64 words] w (MovePost w (Hp.zero,1)):=by
 have hR: ∀W,Below w.heap.size w W→Calls Try.prog 30 #[hpA h src] W fun e w'=>e= .returned (.bool (rightR h))∧Below W.heap.size W w':=fun W hb=>
  right20_calls (w:=W) (G:=G) (x:=src) hh (fun b hb'=>Nat.lt_of_lt_of_le (hG b hb') hb.size) (fun j hj=>(hs j hj).keep (fun b hb'=>hb.block b (hG b hb')) fun _ q=>q)
 rw[hr]at hR
 have HR:=Lib.hid hR
 clear hR
 have e0:(base==0)=false:=by simpa using hb0
 have e1:(words<0)=False:=eq_false hw0
 have e2:(4096<words)=False:=eq_false hw1
 clear hs hr
 unfold hpA
 go_enter Try.func46,Try.ntmps46
 go_wp2_with (first
  | (go_at_call 30;refine(HR.out _ ?_).mono ?_;rotate_left;rintro e wa ⟨rfl,hba⟩
     have bA:wa.heap[w.heap.size]? =some (.cells #[.int .u64 h.base,.int .i64 h.cap,.int .i64 h.to,.bool h.cycle,.int .i64 h.scan,src 0,src 1,src 2,src 3,src 4] 31 (0,0)):=(hba.block _ (by simp;omega)).trans ((Below.heap_alloc _ _ _ (by simp)).trans (heap_alloc_new w _))
     have bZ:wa.heap[w.heap.size+1]? =some (.cells zeroA 31 (0,0)):=(hba.block _ (by simp)).trans (zero_new w _)
     have ya: ∀j,wa.cell? ⟨w.heap.size,j,none⟩=(#[.int .u64 h.base,.int .i64 h.cap,.int .i64 h.to,.bool h.cycle,.int .i64 h.scan,src 0,src 1,src 2,src 3,src 4]:Array Value)[j]? :=fun j=>cell_of_row _ _ _ _ _ _ bA
     have yz: ∀j,wa.cell? ⟨w.heap.size+1,j,none⟩=zeroA[j]? :=fun j=>cell_of_row _ _ _ _ _ _ bZ
     unfold zeroA at yz
     have fz: ∀j,wa.frozen? ⟨w.heap.size+1,j,none⟩=false:=fun j=>frz_of bZ
     have HBA:=Lib.hid hba
     have HBZ:=Lib.hid bZ
     clear hba bA bZ))
 case refine_1=>exact((Below.refl _ w).alloc (Nat.le_refl _) _).alloc (by simp) _
 have hz:=put10_cells HBZ.out (.int .u64 0) (.int .i64 0) (.int .i64 0) (.bool false) (.int .i64 0) (.slice none 0 0) (.slice none 0 0) (.slice none 0 0) (.slice none 0 0) (.slice none 0 0)
 refine bodyPost_ret (v:= .tuple #[.agg zeroA,.int .i64 1]) ?_ rfl ?_
 ·simp[results,Try.results46,go_sem,hz,zeroA]
 ·exact⟨fun _=> .slice none 0 0,rfl,put10_below (Below.trans (((Below.refl _ w).alloc (Nat.le_refl _) _).alloc (by simp) _) (HBA.out.mono (by simp;omega))) (by omega) _ _ _ _ _ _ _ _ _ _,zero_rd _ _⟩
theorem Move_e5(w:World)(G:Nat→Prop)(hG: ∀b,G b→b<w.heap.size)(h:Hp)(hh:h.ok)(src:Nat→Value)(hs: ∀j,j<5→Rd w G (.sl ((lsH h j).map vu)) (src j))(base words:Int)(hb0: ¬base=0)(hw0: ¬words<0)(hw1: ¬4096<words)(hr:rightR h=true)(hc:words<h.cap):
  Calls Try.prog 46 #[hpA h src,.int .u64 base,.int .i64 words] w (MovePost w (Hp.zero,8)):=by
 have hR: ∀W,Below w.heap.size w W→Calls Try.prog 30 #[hpA h src] W fun e w'=>e= .returned (.bool (rightR h))∧Below W.heap.size W w':=fun W hb=>
  right20_calls (w:=W) (G:=G) (x:=src) hh (fun b hb'=>Nat.lt_of_lt_of_le (hG b hb') hb.size) (fun j hj=>(hs j hj).keep (fun b hb'=>hb.block b (hG b hb')) fun _ q=>q)
 rw[hr]at hR
 have HR:=Lib.hid hR
 clear hR
 have e0:(base==0)=false:=by simpa using hb0
 have e1:(words<0)=False:=eq_false hw0
 have e2:(4096<words)=False:=eq_false hw1
 have e3:(words<h.cap)=True:=eq_true hc
 clear hs hr
 unfold hpA
 go_enter Try.func46,Try.ntmps46
 go_wp2_with (first
  | (go_at_call 30;refine(HR.out _ ?_).mono ?_;rotate_left;rintro e wa ⟨rfl,hba⟩
     have bA:wa.heap[w.heap.size]? =some (.cells #[.int .u64 h.base,.int .i64 h.cap,.int .i64 h.to,.bool h.cycle,.int .i64 h.scan,src 0,src 1,src 2,src 3,src 4] 31 (0,0)):=(hba.block _ (by simp;omega)).trans ((Below.heap_alloc _ _ _ (by simp)).trans (heap_alloc_new w _))
     have bZ:wa.heap[w.heap.size+1]? =some (.cells zeroA 31 (0,0)):=(hba.block _ (by simp)).trans (zero_new w _)
     have ya: ∀j,wa.cell? ⟨w.heap.size,j,none⟩=(#[.int .u64 h.base,.int .i64 h.cap,.int .i64 h.to,.bool h.cycle,.int .i64 h.scan,src 0,src 1,src 2,src 3,src 4]:Array Value)[j]? :=fun j=>cell_of_row _ _ _ _ _ _ bA
     have yz: ∀j,wa.cell? ⟨w.heap.size+1,j,none⟩=zeroA[j]? :=fun j=>cell_of_row _ _ _ _ _ _ bZ
     unfold zeroA at yz
     have fz: ∀j,wa.frozen? ⟨w.heap.size+1,j,none⟩=false:=fun j=>frz_of bZ
     have HBA:=Lib.hid hba
     have HBZ:=Lib.hid bZ
     clear hba bA bZ))
 case refine_1=>exact((Below.refl _ w).alloc (Nat.le_refl _) _).alloc (by simp) _
 have hz:=put10_cells HBZ.out (.int .u64 0) (.int .i64 0) (.int .i64 0) (.bool false) (.int .i64 0) (.slice none 0 0) (.slice none 0 0) (.slice none 0 0) (.slice none 0 0) (.slice none 0 0)
 refine bodyPost_ret (v:= .tuple #[.agg zeroA,.int .i64 8]) ?_ rfl ?_
 ·simp[results,Try.results46,go_sem,hz,zeroA]
 ·exact⟨fun _=> .slice none 0 0,rfl,put10_below (Below.trans (((Below.refl _ w).alloc (Nat.le_refl _) _).alloc (by simp) _) (HBA.out.mono (by simp;omega))) (by omega) _ _ _ _ _ _ _ _ _ _,zero_rd _ _⟩
theorem Move_e6(w:World)(G:Nat→Prop)(hG: ∀b,G b→b<w.heap.size)(h:Hp)(hh:h.ok)(src:Nat→Value)(hs: ∀j,j<5→Rd w G (.sl ((lsH h j).map vu)) (src j))(base words:Int)(hb0: ¬base=0)(hw0: ¬words<0)(hw1: ¬4096<words)(hr:rightR h=true)(hc: ¬words<h.cap)(ho:9223372036854775808-2*words<base):
  Calls Try.prog 46 #[hpA h src,.int .u64 base,.int .i64 words] w (MovePost w (Hp.zero,9)):=by
 have hR: ∀W,Below w.heap.size w W→Calls Try.prog 30 #[hpA h src] W fun e w'=>e= .returned (.bool (rightR h))∧Below W.heap.size W w':=fun W hb=>
  right20_calls (w:=W) (G:=G) (x:=src) hh (fun b hb'=>Nat.lt_of_lt_of_le (hG b hb') hb.size) (fun j hj=>(hs j hj).keep (fun b hb'=>hb.block b (hG b hb')) fun _ q=>q)
 rw[hr]at hR
 have HR:=Lib.hid hR
 clear hR
 have e0:(base==0)=false:=by simpa using hb0
 have e1:(words<0)=False:=eq_false hw0
 have e2:(4096<words)=False:=eq_false hw1
 have e3:(words<h.cap)=False:=eq_false hc
 have e4:(9223372036854775808-2*words<base)=True:=eq_true ho
 have w1:=wrap_u words (by omega) (by omega)
 have w2:=wrap_u (2*words) (by omega) (by omega)
 have w3:=wrap_u (9223372036854775808-2*words) (by omega) (by omega)
 clear hs hr
 unfold hpA
 go_enter Try.func46,Try.ntmps46
 go_wp2_with (first
  | (go_at_call 30;refine(HR.out _ ?_).mono ?_;rotate_left;rintro e wa ⟨rfl,hba⟩
     have bA:wa.heap[w.heap.size]? =some (.cells #[.int .u64 h.base,.int .i64 h.cap,.int .i64 h.to,.bool h.cycle,.int .i64 h.scan,src 0,src 1,src 2,src 3,src 4] 31 (0,0)):=(hba.block _ (by simp;omega)).trans ((Below.heap_alloc _ _ _ (by simp)).trans (heap_alloc_new w _))
     have bZ:wa.heap[w.heap.size+1]? =some (.cells zeroA 31 (0,0)):=(hba.block _ (by simp)).trans (zero_new w _)
     have ya: ∀j,wa.cell? ⟨w.heap.size,j,none⟩=(#[.int .u64 h.base,.int .i64 h.cap,.int .i64 h.to,.bool h.cycle,.int .i64 h.scan,src 0,src 1,src 2,src 3,src 4]:Array Value)[j]? :=fun j=>cell_of_row _ _ _ _ _ _ bA
     have yz: ∀j,wa.cell? ⟨w.heap.size+1,j,none⟩=zeroA[j]? :=fun j=>cell_of_row _ _ _ _ _ _ bZ
     unfold zeroA at yz
     have fz: ∀j,wa.frozen? ⟨w.heap.size+1,j,none⟩=false:=fun j=>frz_of bZ
     have HBA:=Lib.hid hba
     have HBZ:=Lib.hid bZ
     clear hba bA bZ))
 case refine_1=>exact((Below.refl _ w).alloc (Nat.le_refl _) _).alloc (by simp) _
 have hz:=put10_cells HBZ.out (.int .u64 0) (.int .i64 0) (.int .i64 0) (.bool false) (.int .i64 0) (.slice none 0 0) (.slice none 0 0) (.slice none 0 0) (.slice none 0 0) (.slice none 0 0)
 refine bodyPost_ret (v:= .tuple #[.agg zeroA,.int .i64 9]) ?_ rfl ?_
 ·simp[results,Try.results46,go_sem,hz,zeroA]
 ·exact⟨fun _=> .slice none 0 0,rfl,put10_below (Below.trans (((Below.refl _ w).alloc (Nat.le_refl _) _).alloc (by simp) _) (HBA.out.mono (by simp;omega))) (by omega) _ _ _ _ _ _ _ _ _ _,zero_rd _ _⟩
end Vm
end
section
namespace Vm
open Go Go.Proofs Go.RowKit
set_option maxHeartbeats 1000000
set_option maxRecDepth 100000
theorem lay_fits{h:Hp}(hh:h.ok){base words:Int}(hb:U64 base)(hw:Fit words):(layH {h with base:=base,cap:=words}).fits:=by
 obtain⟨_,_,q3,q4,q5,q6,q7⟩:=hh.lay
 exact⟨hb,hw,q3,q4,q5,q6,q7⟩
theorem Move_walk(w:World)(G:Nat→Prop)(hG: ∀b,G b→b<w.heap.size)(h:Hp)(hh:h.ok)(src:Nat→Value)(hs: ∀j,j<5→Rd w G (.sl ((lsH h j).map vu)) (src j))(base words:Int)(hb:U64 base)(hw:Fit words):
  Calls Try.prog 46 #[hpA h src,.int .u64 base,.int .i64 words] w (MovePost w (moveR h base words)):=by
 by_cases h1:base=0
 ·rw[show moveR h base words=(Hp.zero,1)by unfold moveR;rw[if_pos (.inr (.inl h1))]]
  exact Move_e1 w G hG h hh src hs base words h1
 by_cases h2:words<0
 ·rw[show moveR h base words=(Hp.zero,1)by unfold moveR;rw[if_pos (.inr (.inr (.inl h2)))]]
  exact Move_e2 w G hG h hh src hs base words h1 h2
 by_cases h3:4096<words
 ·rw[show moveR h base words=(Hp.zero,1)by unfold moveR;rw[if_pos (.inr (.inr (.inr h3)))]]
  exact Move_e3 w G hG h hh src hs base words h1 h2 h3
 cases hr:rightR h with
 |false=>
  rw[show moveR h base words=(Hp.zero,1)by unfold moveR;rw[if_pos (.inl hr)]]
  exact Move_e4 w G hG h hh src hs base words h1 h2 h3 hr
 |true=>
  have hn: ¬(rightR h=false∨base=0∨words<0∨4096<words):=by
   rintro(e|e|e|e)
   ·rw[hr]at e;cases e
   ·exact h1 e
   ·exact h2 e
   ·exact h3 e
  by_cases h4:words<h.cap
  ·rw[show moveR h base words=(Hp.zero,8)by unfold moveR;rw[if_neg hn,if_pos h4]]
   exact Move_e5 w G hG h hh src hs base words h1 h2 h3 hr h4
  by_cases h5:9223372036854775808-2*words<base
  ·rw[show moveR h base words=(Hp.zero,9)by unfold moveR;rw[if_neg hn,if_neg h4,if_pos h5]]
   exact Move_e6 w G hG h hh src hs base words h1 h2 h3 hr h4 h5
  obtain⟨p,r⟩:=right_iff.1 hr
  rw[show moveR h base words=(movM h p base words,0)by unfold moveR;rw[if_neg hn,if_neg h4,if_neg h5,r.parts,Option.getD_some]]
  have m:MvOk h base words:=⟨h1,by omega,by omega,by omega,by omega⟩
  have hr2:=m.right hb.1 r.lay
  exact Move_ok w G hG h hh src hs base words h1 h2 h3 h4 h5 r rfl rfl (lay_fits hh hb hw) (fun v hv=>gos_err0 r.toTld hr2 (by omega) (by omega) (r.roots v hv)) mvPs_all (move_hob r.toBody hr2 rfl rfl)
theorem Move_vc{h:Hp}(hh:h.ok){base words:Int}(hb:U64 base)(hw:Fit words):VC Try.prog 46 false [hpV h,vu base,vi words] (.tup [hpV (moveR h base words).1,vi (moveR h base words).2]):=by
 refine⟨by kernel_rfl,fun w G vs hG hsz hvs=> ?_⟩
 have r0:=hvs 0 _ rfl
 have r1:=hvs 1 _ rfl
 have r2:=hvs 2 _ rfl
 have he:vs= #[vs.getD 0 undef,vs.getD 1 undef,vs.getD 2 undef]:=by
  have hs3:vs.size=3:=hsz
  apply Array.ext
  ·simp[hs3]
  ·intro i h1 h2
   have hi:i<3:=by omega
   match i,hi with
   |0,_=>simp[Array.getD,hs3]
   |1,_=>simp[Array.getD,hs3]
   |2,_=>simp[Array.getD,hs3]
 obtain⟨src,e0,hs⟩:=hp_src r0
 rw[he,e0,rd_int_inv r1,rd_int_inv r2]
 refine(Move_walk w G hG h hh src hs base words hb hw).mono ?_
 rintro e w' ⟨x,rfl,hb',hr⟩
 refine⟨_,rfl,hb',?_⟩
 refine .tup _ _ rfl ?_
 intro i y hy
 match i,hy with
 |0,hy=>cases hy;exact hp_rd fun j hj=>(hr j hj).mono fun b hb=> .inr hb
 |1,hy=>cases hy;exact .int _ _
end Vm
end
section
namespace Go.Proofs.Ytfplljcicihneaa
open Vm Go.ChangeShapes Go.WideShapes Go.ChangeAt Go.RowKit
set_option maxRecDepth 100000
theorem moveTells_law(xs:List V)(hl:xs.length=Try.f12.params.toList.length)(ht: ∀(i:Nat) (t:TypeId) (x:V),Try.f12.params.toList[i]? =some t→xs[i]? =some x→tyV Try.prog 8 t x):
  VC Try.prog 12 false xs (.bool true):=by
 rw[Try.params12]at hl ht
 match xs,hl with
 | [x0,x1,x2,x3,x4,x5,x6,x7,x8],_=>
   obtain⟨x,rfl,hx⟩:=ty_rw (ht 0 _ x0 rfl rfl)
   obtain⟨h,rfl,hh⟩:=ty_vi (ht 1 _ x1 rfl rfl)
   obtain⟨n,rfl,hn⟩:=ty_vi (ht 2 _ x2 rfl rfl)
   obtain⟨w,rfl,hw⟩:=ty_vu (ht 3 _ x3 rfl rfl)
   obtain⟨b,rfl,hb⟩:=ty_vu (ht 4 _ x4 rfl rfl)
   obtain⟨q,rfl,hq⟩:=ty_vi (ht 5 _ x5 rfl rfl)
   obtain⟨f,rfl,hf⟩:=ty_ly (ht 6 _ x6 rfl rfl)
   obtain⟨c,rfl,hc⟩:=ty_vu (ht 7 _ x7 rfl rfl)
   obtain⟨ma,mb,mc,md,me,mf,rfl,hma,hmb,hmc,hmd,hme,hmf⟩:=ty_i6 (ht 8 _ x8 rfl rfl)
   exact law20Tells (fun h b w hh hb hw=>Move_vc hh hb hw) hx hh hn hw hb hq hf hc hma hmb hmc hmd hme hmf
theorem moveTells_lifted(os:Os)(started:os.Started)(H:Type)(enc:TypeId×Value→H):
  ReturnsInHanded {} Try.checked os 12 .any (Rows.moveTellsSpec.pre6 enc Try.prog Try.f12 Rows.moveTellsRow.domain false) (Rows.moveTellsSpec.post enc Try.prog Try.f12 false true false false):=by
 refine returnsInHanded_of_change (C:=Try.checked) own started (by kernel_rfl) Try.func12
  (ChangeSpec.witness6 (enc:=enc) (C:=Try.checked) false ⟨#[], #[.agg #[.slice none 0 0,.slice none 0 0,.slice none 0 0,.int .u64 0,.int .i64 0,.int .i64 0,.int .i64 0],.int .i64 0,.int .i64 0,.int .u64 0,.int .u64 0,.int .i64 0,.agg #[.int .u64 0,.int .i64 0,.int .i64 0,.int .i64 0,.int .i64 0,.int .i64 0,.int .i64 0],.int .u64 0,.agg #[.int .i64 0,.int .i64 0,.int .i64 0,.int .i64 0,.int .i64 0,.int .i64 0]],[]⟩ 8 (by kernel_rfl) (by kernel_rfl) (by kernel_rfl) (by kernel_rfl)) ?_
 intro W base args ds gs before hval hW _ _
 exact law_contract (tb:=4) 8 laidOut (by kernel_rfl) (by kernel_rfl) rfl (by kernel_rfl) Try.underlying4 (fun H ds hd=>by
  rw[Try.params12]at hd
  match ds,hd with
  | [_,_,_,_,_,_,_,_,_],_=>rfl) moveTells_law H enc W base args ds gs before hval hW
theorem moveTells_holds:Rows.MoveTellsSaid:=
 OpenClaim.holds_of_wide 12 Try.f12 rfl rfl rfl rfl rfl rfl rfl ⟨rfl,rfl,rfl,rfl,rfl⟩ rfl rfl rfl rfl rfl (by kernel_rfl) Try.func12 (by kernel_rfl)
  (of_decide_eq_true (by kernel_rfl)) (by unfold Func.isWrapper;first| (rw[if_pos (by decide+kernel)];kernel_rfl) | (rw[if_neg (by decide+kernel)];exact⟨rfl,rfl⟩))
  (fun os started H enc _=>moveTells_lifted os started H enc)
#print axioms moveTells_holds
end Go.Proofs.Ytfplljcicihneaa
end
