/-
  The law ViewLive holds of the given program, for every input.
-/
import Derived.Recover
import Derived.OwnWalkIn
import Derived.TacticsInMore
import Derived.LoopNIn
import Derived.LoopIn
import Derived.Shelf.RegionOpen
import Derived.RecoverIn
import Derived.RangeFuncBox
import Derived.Maps.AppendAt
import Derived.Maps.OwnIn
import Derived.Laws.StructEq
import Derived.Lib.Hide
import Derived.Conc.EventLaws
import Derived.Test.YtffknkhabklijaaRows
import Derived.Conc.LeavingOf
import Derived.Test.YtffknkhabklijaaSViewLive5
set_option linter.unusedSimpArgs false
set_option linter.unusedVariables false
set_option linter.defProp false
set_option maxHeartbeats 4000000
set_option maxRecDepth 100000
def Zhg:=@_root_.Go.Lib.hid
def ZkH:=@_root_.eq_false
def ZiJ:=@_root_.Go.bodyPost_ret
def Ziq:=@_root_.Go.World.cell?_alloc_lt
def Zhs:=@_root_.Go.RowKit.Below.heap_setCell
def Zjc:=@_root_.Array.replicate_succ
def Zjd:=@_root_.Array.replicate_zero
def Zjw:=@_root_.List.push_toArray
def Zjj:=@_root_.List.append_toArray
def Zk0:=@_root_.Go.callsIn_wide
def ZjD:=@_root_.Go.grownBy_setCell'
def Zk8:=@_root_.List.findIdx?_eq_none_iff
def Zix:=@_root_.List.flatMap_append
def Zjk:=@_root_.List.getElem?_take_of_lt
def Zkj:=@_root_.List.drop_append
def Zjr:=@_root_.Nat.add_sub_cancel_left
def ZkJ:=@_root_.List.take_left
def Zk4:=@_root_.List.mem_replicate
def Zkd:=@_root_.List.flatMap_cons
section
namespace Vm
open Go Go.Proofs Go.RowKit
theorem Z3O{x:Int}(hx:U64 x):VC Sol.prog 135 false [vu x] (.bool (RZ x)):=by
 refine Z9 Sol.func135 follows (by kernel_rfl) c135 rfl ?_;simp[p135];refine Z1 (ye hx) (by simp) ?_;simp_all[RZ]
theorem S5{x:Int}(hx:U64 x)(w:World):Calls Sol.prog 135 #[.int .u64 x] w λe w'=>e=.returned (.bool (RZ x))/\Below w.heap.size w w':=
 WF (Z3O hx) rfl rfl w
structure Words (w:World) (ws:List Int) (g o cap:Nat):Prop where
 at_:∀(i:Nat) (x:Int),ws[i]?=some x->w.cell? ⟨g,o+i,none⟩=some (.int .u64 x)
 le:ws.length<=cap
 cap:cap<=maxLen
 len:ws.length<=1000000
 u64:∀x∈ws,U64 x
def XE(e:Int):List PanicEntry:=[{v:=.iface 189 (.agg #[.int .i64 e]),recovered:=false}]
def obA(o:Ob):Value:=.agg #[.int .i64 o.at_,.int .i64 o.size,.int .i64 o.ptrs,.bool o.gone,.int .u64 o.target]
def Z7F(ws:List Int)(o:Ob):Ending:=
 if(ws.length:Int)<o.at_+1+o.size then .panicked (XE 2)else if ZV ((ws.drop (o.at_.toNat+1)).take o.size.toNat) o.gone o.ptrs 0=false then .panicked (XE 3)else .returned (.tuple #[])
theorem Z59(w:World)(ws:List Int)(g o cap:Nat)(hw:Words w ws g o cap)(hg:g<w.heap.size)(ob:Ob)(a:Nat)(ha:ob.at_=a)(hlt:a<ws.length)(hsh:Zs ob.size ob.ptrs=true):
  Calls Sol.prog 134 #[.slice (some ⟨g,o,none⟩) ws.length cap,obA ob] w λe w'=>e=Z7F ws ob/\Below w.heap.size w w':=by
 have hl:=hw.len;have hc:=hw.le;have hm:=hw.cap;obtain⟨at_,size,ptrs,gone,target⟩:=ob;simp only at ha hsh;subst ha;obtain⟨s1,s2,s3,s4⟩:=Zf.1 hsh;obtain⟨m,rfl⟩:=Zh4 s1;have HW:=Zhg hw;have he:Z7F ws ⟨a,m,ptrs,gone,target⟩=if(ws.length:Int)<a+1+m then .panicked (XE 2)else if ZV ((ws.drop (a+1)).take m) gone ptrs 0=false then .panicked (XE 3)else .returned (.tuple #[]):=rfl
 generalize Z7F ws ⟨a,m,ptrs,gone,target⟩=E at*;unfold obA;dsimp only;by_cases hfit:(ws.length:Int)<a+1+m
 ·rw[if_pos hfit]at he;have HE:=Zhg he;clear he;have hlt2:((ws.length- (a+1):Nat):Int)<m:=by omega
  go_enter Sol.func134,Try.ntmps134;go_wp2
  all_goals exact⟨rfl,HE.out.symm,(ZhA _ _).alloc (ZgP _) _⟩
 ·rw[if_neg hfit]at he;have HE:=Zhg he;clear he;have hge2:(m:Int)<=((ws.length- (a+1):Nat):Int):=by omega
  have hge3:m<=ws.length- (a+1):=by omega
  have hnlt:(ws.length- (a+1)<m)=False:=ZkH (by omega);have hcm:m<=cap- (a+1):=by omega
  have hm5:m<=255:=by omega
  clear hw hfit;by_cases hcap:cap=a+1
  ·have hm0:m=0:=by omega
   subst hm0;subst hcap;go_enter Sol.func134,Try.ntmps134;go_wp2
   go_loopw [26] (λi wr=>i=.int .i64 0/\Hid (Below w.heap.size w wr)) (λi _=>0)
   case atStart=>exact⟨rfl,Zhg ((ZhA _ _).alloc (ZgP _) _)⟩
   case round=>
    obtain⟨rfl,HB⟩:=hrel;go_wp2
    go_end0
    exact⟨HE.out.symm,HB.out⟩
  ·go_enter Sol.func134,Try.ntmps134;go_wp2
   go_loopw [26] (λi wr=>∃k:Nat,i=.int .i64 k/\k<=m/\Hid (Below w.heap.size w wr/\wr.heap[w.heap.size]?=some (.cells #[.int .i64 a,.int .i64 m,.int .i64 ptrs,.bool gone,.int .u64 target] 59 (0,0))/\
     ZV ((ws.drop (a+1)).take m) gone ptrs 0=ZV (((ws.drop (a+1)).take m).drop k) gone ptrs k)) (λi _=>m- (intOf i).toNat)
   case atStart=>exact⟨0,rfl,by omega,Zhg ⟨(ZhA _ _).alloc (ZgP _) _,Zhv w _,rfl⟩⟩
   case round=>
    obtain⟨k,rfl,hk,HI⟩:=hrel;by_cases hlt:k<m
    ·obtain⟨x,hx⟩:∃x,ws[a+1+k]?=some x:=⟨_,ZgJ (by omega)⟩;have hu:U64 x:=HW.out.u64 x (ZgQ hx)
     have hT:((ws.drop (a+1)).take m)[k]?=some x:=by
      rw[Zhm,if_pos hlt,Zht];exact hx
     have c0:wr.cell? ⟨g,o+(a+1)+k,none⟩=some (.int .u64 x):=by
      rw[Zif];exact(HI.out.1.cell (p:=⟨g,o+(a+1+k),none⟩) hg).trans (HW.out.at_ _ _ hx)
     have c1:wr.cell? ⟨w.heap.size,1,none⟩=some (.int .i64 m):=by rw[Zh3 _ _ _ _ _ _ HI.out.2.1];rfl
     have c2:wr.cell? ⟨w.heap.size,2,none⟩=some (.int .i64 ptrs):=by rw[Zh3 _ _ _ _ _ _ HI.out.2.1];rfl
     have c3:wr.cell? ⟨w.heap.size,3,none⟩=some (.bool gone):=by rw[Zh3 _ _ _ _ _ _ HI.out.2.1];rfl
     have hs:=jv (gone:=gone) (ptrs:=ptrs) hT;have hlt':(k:Int)<m:=by omega
     have hbs:=ZH HI.out.2.1;clear hx hT
     have stop:ZV (((ws.drop (a+1)).take m).drop k) gone ptrs k=false->E=.panicked (XE 3):=λh=>by
      rw[HE.out,HI.out.2.2,h,if_pos rfl]
     cases gone
     ·by_cases hp:(k:Int)<ptrs
      ·cases hip:RZ x
       ·have HE2:=Zhg (stop (by simp_all));clear stop hs
        go_wp2_with (go_at_call 135;refine(S5 hu _).mono ?_;rintro e w1 ⟨rfl,hb1⟩;have HB1:=Zhg hb1;clear hb1)
        exact⟨rfl,HE2.out.symm,HI.out.1.trans (HB1.out.mono HI.out.1.size)⟩
       ·have HS:=Zhg (hs.trans (by simp[hip]:_=ZV (((ws.drop (a+1)).take m).drop (k+1)) false ptrs (k+1)));clear stop hs
        go_wp2_with (go_at_call 135;refine(S5 hu _).mono ?_;rintro e w1 ⟨rfl,hb1⟩;have HB1:=Zhg hb1;clear hb1)
        go_wp2
        go_roundw
        case rel=>
         exact⟨k+1,by go_num,by omega,Zhg ⟨HI.out.1.trans (HB1.out.mono HI.out.1.size),(HB1.out.block _ hbs).trans HI.out.2.1,HI.out.2.2.trans HS.out⟩⟩
        case measure=>grind [intOf]
      ·have HS:=Zhg (hs.trans (by simp[hp]:_=ZV (((ws.drop (a+1)).take m).drop (k+1)) false ptrs (k+1)));clear stop hs;go_wp2
       go_roundw
       case rel=>exact⟨k+1,by go_num,by omega,Zhg ⟨HI.out.1,HI.out.2.1,HI.out.2.2.trans HS.out⟩⟩
       case measure=>grind [intOf]
     ·by_cases h0:x=0
      ·subst h0;have HS:=Zhg (hs.trans (by simp[RZ]:_=ZV (((ws.drop (a+1)).take m).drop (k+1)) true ptrs (k+1)));clear stop hs;go_wp2
       go_roundw
       case rel=>exact⟨k+1,by go_num,by omega,Zhg ⟨HI.out.1,HI.out.2.1,HI.out.2.2.trans HS.out⟩⟩
       case measure=>grind [intOf]
      ·have HE2:=Zhg (stop (by simp_all));clear stop hs;go_wp2;exact⟨rfl,HE2.out.symm,HI.out.1⟩
    ·have:k=m:=by omega
     subst this;have h3:=HI.out.2.2;have hd:((ws.drop (a+1)).take k).drop k=[]:=Zil (by simp_all);rw[hd]at h3;have HE2:=Zhg (HE.out.trans (by rw[h3];rfl:_=Ending.returned (.tuple #[])));clear h3 hd;go_wp2
     go_end0
     exact⟨HE2.out.symm,HI.out.1⟩
end Vm
namespace Vm
open Go Go.Proofs Go.RowKit
theorem Zaj(w:World):Sem.run Sol.prog (binOp .neq 190 .nilFunc .nilFunc) w=.ok (.bool false) w:=by rfl
theorem Z5W(w:World)(f:FuncId)(vs:Array Value):Sem.run Sol.prog (binOp .neq 190 (.func (.func f) #[] vs) .nilFunc) w=.ok (.bool true) w:=by rfl
theorem row5{w:World}{b:Nat}{T:TypeId}{v0 v1 v2 v3 v4:Value}(h:w.heap[b]?=some (.cells #[v0,v1,v2,v3,v4] T (0,0)))(O:Obj):
  ((w.alloc O).cell? ⟨b,0,none⟩=some v0/\(w.alloc O).cell? ⟨b,1,none⟩=some v1/\(w.alloc O).cell? ⟨b,2,none⟩=some v2/\(w.alloc O).cell? ⟨b,3,none⟩=some v3/\(w.alloc O).cell? ⟨b,4,none⟩=some v4)/\
  (w.alloc O).frozen? ⟨b,0,none⟩=false/\(w.alloc O).frozen? ⟨b,1,none⟩=false/\(w.alloc O).frozen? ⟨b,2,none⟩=false/\(w.alloc O).frozen? ⟨b,3,none⟩=false/\(w.alloc O).frozen? ⟨b,4,none⟩=false:=by
 have h':(w.alloc O).heap[b]?=some (.cells #[v0,v1,v2,v3,v4] T (0,0)):=(ZhQ _ _ _ (ZH h)).trans h;refine⟨⟨?_,?_,?_,?_,?_⟩,YY h',YY h',YY h',YY h',YY h'⟩<;>(rw[Zh3 _ _ _ _ _ _ h'];rfl)
def begE(a:Nat)(x:Int):Ending:=if(unpk x).2.2=0 then .returned (obA ⟨a,(unpk x).1,(unpk x).2.1,false,0⟩)else .panicked (XE 3)
theorem Z4A(w:World)(ws:List Int)(g o cap:Nat)(hw:Words w ws g o cap)(hg:g<w.heap.size)(a:Nat)(x:Int)(hx:ws[a]?=some x):
  Calls Sol.prog 133 #[.slice (some ⟨g,o,none⟩) ws.length cap,.int .i64 a,.nilFunc] w λe w'=>e=begE a x/\Below w.heap.size w w':=by
 have hl:=hw.len;have hc:=hw.le;have hm:=hw.cap;have hlt:a<ws.length:=(ZgL.1 hx).1;have hlt':(a:Int)<ws.length:=by omega
 have hu:U64 x:=hw.u64 x (ZgQ hx);have c0:=hw.at_ a x hx;have cc:∀W,Below w.heap.size w W->W.cell? ⟨g,o+a,none⟩=some (.int .u64 x):=λW hb=>(hb.cell (p:=⟨g,o+a,none⟩) hg).trans c0;have he:begE a x=if(unpk x).2.2=0 then .returned (obA ⟨a,(unpk x).1,(unpk x).2.1,false,0⟩)else .panicked (XE 3):=rfl
 generalize begE a x=E at*;have HC:=Zhg cc;have hnil:=Zaj;clear hw hx cc;by_cases h0:(unpk x).2.2=0
 ·rw[if_pos h0]at he;have HE:=Zhg he;clear he;go_enter Sol.func133,Try.ntmps133
  go_wp2_with (first
   |(go_at_call 44;refine(WC hu _).mono ?_;rintro e w1 ⟨rfl,hb1⟩;have HB1:=Zhg hb1;have d0:=HC.out w1 (((((ZhA _ w).alloc (ZgP _) _).alloc (by simp) _).trans (hb1.mono (by simp;omega))));clear hb1)
   | (go_at_call 69;refine(UC hu _).mono ?_;rintro e w2 ⟨rfl,hb2⟩;have HB2:=Zhg hb2
      have hB:=HB1.out.block;have r0:w2.heap[w.heap.size]?=some (.cells #[.int .i64 0,.int .i64 0,.int .i64 0,.bool false,.int .u64 0] 59 (0,0)):=(hb2.block _ (by have:=HB1.out.size;simp at this;omega)).trans ((HB1.out.block _ (by simp;omega)).trans ((ZhQ _ _ _ (by simp)).trans (Zhv w _)));have r1:w2.heap[w.heap.size+1]?=some (.cells #[.int .i64 a,.int .i64 0,.int .i64 0,.bool false,.int .u64 0] 59 (0,0)):=(hb2.block _ (by have:=HB1.out.size;simp at this;omega)).trans ((HB1.out.block _ (by simp)).trans (by have:=Zhv (w.alloc (.cells #[.int .i64 0,.int .i64 0,.int .i64 0,.bool false,.int .u64 0] 59)) (.cells #[.int .i64 a,.int .i64 0,.int .i64 0,.bool false,.int .u64 0] 59);simp_all));obtain⟨⟨x0,x1,x2,x3,x4⟩,y0,y1,y2,y3,y4⟩:=row5 r0 (.cells #[.int .i64 (unpk x).1,.int .i64 (unpk x).2.1] 52);obtain⟨⟨p0,p1,p2,p3,p4⟩,q0,q1,q2,q3,q4⟩:=row5 r1 (.cells #[.int .i64 (unpk x).1,.int .i64 (unpk x).2.1] 52);have HR:=Zhg (And.intro r0 r1);clear hb2 hB r0 r1))
  refine ZiJ (v:=obA ⟨a,(unpk x).1,(unpk x).2.1,false,0⟩) ?_ rfl ⟨HE.out.symm,?_⟩
  ·simp[results,Try.results133,go_sem,obA,x0,x1,x2,x3,x4]
  ·have h1:=(((ZhA _ w).alloc (ZgP _) (.cells #[.int .i64 0,.int .i64 0,.int .i64 0,.bool false,.int .u64 0] 59)).alloc (by simp) (.cells #[.int .i64 a,.int .i64 0,.int .i64 0,.bool false,.int .u64 0] 59)).trans (HB1.out.mono (by simp;omega));have h2:=(h1.trans (HB2.out.mono (by have:=h1.size;omega))).alloc (by have:=h1.size;have:=HB2.out.size;omega) (.cells #[.int .i64 (unpk x).1,.int .i64 (unpk x).2.1] 52);exact((((((h2.setCell (p:=⟨w.heap.size+1,1,none⟩) (by simp) _).setCell (p:=⟨w.heap.size+1,2,none⟩) (by simp) _).setCell (p:=⟨w.heap.size,0,none⟩) (ZgP _) _).setCell (p:=⟨w.heap.size,1,none⟩) (ZgP _) _).setCell (p:=⟨w.heap.size,2,none⟩) (ZgP _) _).setCell (p:=⟨w.heap.size,3,none⟩) (ZgP _) _).setCell (p:=⟨w.heap.size,4,none⟩) (ZgP _) _
 ·rw[if_neg h0]at he;have HE:=Zhg he;clear he;have h0':((unpk x).2.2=0)=False:=ZkH h0;go_enter Sol.func133,Try.ntmps133
  go_wp2_with (first
   |(go_at_call 44;refine(WC hu _).mono ?_;rintro e w1 ⟨rfl,hb1⟩;have HB1:=Zhg hb1;have d0:=HC.out w1 (((((ZhA _ w).alloc (ZgP _) _).alloc (by simp) _).trans (hb1.mono (by simp;omega))));clear hb1)
   |(go_at_call 69;refine(UC hu _).mono ?_;rintro e w2 ⟨rfl,hb2⟩;have HB2:=Zhg hb2;clear hb2))
  refine⟨rfl,HE.out.symm,?_⟩;have h1:=(((ZhA _ w).alloc (ZgP _) (.cells #[.int .i64 0,.int .i64 0,.int .i64 0,.bool false,.int .u64 0] 59)).alloc (by simp) (.cells #[.int .i64 a,.int .i64 0,.int .i64 0,.bool false,.int .u64 0] 59)).trans (HB1.out.mono (by simp;omega));exact(h1.trans (HB2.out.mono (by have:=h1.size;omega))).alloc (by have:=h1.size;have:=HB2.out.size;omega) _
end Vm
namespace Vm
open Go Go.Proofs Go.RowKit
theorem Si(s p:Int)(w:World):Calls Sol.prog 94 #[.agg #[.int .i64 s,.int .i64 p]] w λe w'=>e=.returned (.bool (Zs s p))/\Below w.heap.size w w':=
 WF ji rfl rfl w
structure Shps (w:World) (shs:List (Int×Int)) (bs:Nat) (v:Value):Prop where
 box:w.heap[bs]?=some (.cells #[v] 180 (0,0))
 val:(∃g o cap,v=.slice (some ⟨g,o,none⟩) shs.length cap/\shs.length<=cap/\cap<=maxLen/\g<w.heap.size/\∀(i:Nat) (x:Int×Int),shs[i]?=some x->w.cell? ⟨g,o+i*2,none⟩=some (.int .i64 x.1)/\w.cell? ⟨g,o+i*2+1,none⟩=some (.int .i64 x.2))\/
  (∃a cap,v=.slice a 0 cap/\shs=[])
theorem Z7D(w:World)(shs:List (Int×Int))(bt bs:Nat)(v:Value)(hl:shs.length<=1000000)(hs:Shps w shs bs v)(hb:w.heap[bt]?=some (.cells #[.int .i64 shs.length] 3 (0,0))):
  Calls Sol.prog 129 #[.pointer (some ⟨bt,0,none⟩),.pointer (some ⟨bs,0,none⟩)] w λe w'=>e=.panicked (XE 3)/\Below w.heap.size w w':=by
 have c0:w.cell? ⟨bt,0,none⟩=some (.int .i64 shs.length):=by rw[Zh3 _ _ _ _ _ _ hb];rfl
 have hbl:=ZH hb;have hbl2:=ZH hs.box;have c1:w.cell? ⟨bs,0,none⟩=some v:=by rw[Zh3 _ _ _ _ _ _ hs.box];rfl
 rcases hs.val with ⟨g,o,cap,rfl,h1,h2,h3,h4⟩|⟨a,cap,rfl,rfl⟩
 ·clear h4 hs hb;go_enter Sol.func129,Try.ntmps129;go_wp2;exact⟨rfl,rfl,(ZhA _ _).alloc (ZgP _) _⟩
 ·clear hs hb;simp only[Ziy]at c0;go_enter Sol.func129,Try.ntmps129;go_wp2;exact⟨rfl,rfl,(ZhA _ _).alloc (ZgP _) _⟩
theorem Z7C(w:World)(shs:List (Int×Int))(bt bs t:Nat)(v:Value)(x:Int×Int)(hl:shs.length<=1000000)(hs:Shps w shs bs v)(hb:w.heap[bt]?=some (.cells #[.int .i64 t] 3 (0,0)))(hx:shs[t]?=some x)(hn:Zs x.1 x.2=false):
  Calls Sol.prog 129 #[.pointer (some ⟨bt,0,none⟩),.pointer (some ⟨bs,0,none⟩)] w λe w'=>e=.panicked (XE 3)/\Below w.heap.size w w':=by
 have c0:w.cell? ⟨bt,0,none⟩=some (.int .i64 t):=by rw[Zh3 _ _ _ _ _ _ hb];rfl
 have hbl:=ZH hb;have hbl2:=ZH hs.box;have hlt:t<shs.length:=(ZgL.1 hx).1;have hne:¬t=shs.length:=by omega
 have hlt':(t:Int)<shs.length:=by omega
 have c1:w.cell? ⟨bs,0,none⟩=some v:=by rw[Zh3 _ _ _ _ _ _ hs.box];rfl
 rcases hs.val with ⟨g,o,cap,rfl,h1,h2,h3,h4⟩|⟨a,cap,rfl,rfl⟩
 ·obtain⟨d0,d1⟩:=h4 t x hx;have e2:=Si x.1 x.2;rw[hn]at e2;clear h4 hs hb hx hn;go_enter Sol.func129,Try.ntmps129
  go_wp2_with (go_at_call 94;refine(e2 _).mono ?_;rintro e w1 ⟨rfl,hb1⟩;have HB1:=Zhg hb1;clear hb1)
  exact⟨rfl,rfl,((ZhA _ w).alloc (ZgP _) _).trans (HB1.out.mono (by simp))⟩
 grind
theorem Z9T(w:World)(shs:List (Int×Int))(bt bs t:Nat)(v:Value)(x:Int×Int)(hl:shs.length<=1000000)(hs:Shps w shs bs v)(hb:w.heap[bt]?=some (.cells #[.int .i64 t] 3 (0,0)))(hx:shs[t]?=some x)(hn:Zs x.1 x.2=true)(hbs:bs≠bt)
  (hgb:∀g o cap,v=.slice (some ⟨g,o,none⟩) shs.length cap->g≠bt):
  Calls Sol.prog 129 #[.pointer (some ⟨bt,0,none⟩),.pointer (some ⟨bs,0,none⟩)] w λe w'=>e=.returned (.agg #[.int .i64 x.1,.int .i64 x.2])/\w.grownBy w' (some bt)/\w'.heap[bt]?=some (.cells #[.int .i64 ((t+1:Nat):Int)] 3 (0,0)):=by
 have c0:w.cell? ⟨bt,0,none⟩=some (.int .i64 t):=by rw[Zh3 _ _ _ _ _ _ hb];rfl
 have hbl:=ZH hb;have hbl2:=ZH hs.box;have hlt:t<shs.length:=(ZgL.1 hx).1;have hne:¬t=shs.length:=by omega
 have hlt':(t:Int)<shs.length:=by omega
 have c1:w.cell? ⟨bs,0,none⟩=some v:=by rw[Zh3 _ _ _ _ _ _ hs.box];rfl
 have hf:=YY (o:=0) hb;have hbs':¬bs=bt:=hbs;have hbs2:¬bt=bs:=λe=>hbs e.symm;rcases hs.val with ⟨g,o,cap,rfl,h1,h2,h3,h4⟩|⟨a,cap,rfl,rfl⟩
 ·obtain⟨d0,d1⟩:=h4 t x hx;have hg:=hgb g o cap rfl;have e2:=Si x.1 x.2;rw[hn]at e2;have HB:=Zhg hb;clear h4 hs hb hx hn hgb;go_enter Sol.func129,Try.ntmps129
  go_wp2_with (go_at_call 94;refine(e2 _).mono ?_;rintro e w1 ⟨rfl,hb1⟩
               have HB1:=Zhg hb1;have s1:=hb1.size;have k0:w1.cell? ⟨bt,0,none⟩=some (.int .i64 t):=(hb1.cell (p:=⟨bt,0,none⟩) (by simp;omega)).trans ((Ziq _ _ _ hbl).trans c0);have k1:w1.frozen? ⟨bt,0,none⟩=false:=YY ((hb1.block bt (by simp;omega)).trans ((ZhQ _ _ _ hbl).trans HB.out));have k2:w1.cell? ⟨bs,0,none⟩=some (.slice (some ⟨g,o,none⟩) shs.length cap):=(hb1.cell (p:=⟨bs,0,none⟩) (by simp;omega)).trans ((Ziq _ _ _ hbl2).trans c1);have k3:w1.cell? ⟨g,o+t*2,none⟩=some (.int .i64 x.1):=(hb1.cell (p:=⟨g,o+t*2,none⟩) (by simp;omega)).trans ((Ziq _ _ _ h3).trans d0);have k4:w1.cell? ⟨g,o+t*2+1,none⟩=some (.int .i64 x.2):=(hb1.cell (p:=⟨g,o+t*2+1,none⟩) (by simp;omega)).trans ((Ziq _ _ _ h3).trans d1);have r0:w1.heap[w.heap.size]?=some (.cells #[.int .i64 0,.int .i64 0] 52 (0,0)):=(hb1.block _ (by simp)).trans (Zhv w _);have x0:w1.cell? ⟨w.heap.size,0,none⟩=some (.int .i64 0):=by rw[Zh3 _ _ _ _ _ _ r0];rfl
               have x1:w1.cell? ⟨w.heap.size,1,none⟩=some (.int .i64 0):=by rw[Zh3 _ _ _ _ _ _ r0];rfl
               have y0:=YY (o:=0) r0;have y1:=YY (o:=1) r0;have n1:¬w.heap.size=bt:=by omega
               have n2:¬bt=w.heap.size:=by omega
               have HR:=Zhg r0;clear hb1 r0)
  have hB:Below w.heap.size w w1:=((ZhA _ w).alloc (ZgP _) (.cells #[.int .i64 0,.int .i64 0] 52)).trans (HB1.out.mono (by simp));have hw1:w1.heap[bt]?=some (.cells #[.int .i64 t] 3 (0,0)):=(hB.block bt hbl).trans HB.out;refine ZiJ (v:=.agg #[.int .i64 x.1,.int .i64 x.2]) ?_ rfl ⟨rfl,⟨hB.os,hB.tape,hB.output,?_,λk hk hne=> ?_⟩,?_⟩
  ·simp[results,Try.results129,go_sem,x0,x1,n1,n2]
  ·simp[World.setCell];exact hB.size
  ·have hkb:k≠bt:=λe=>hne (by rw[e]);rw[Zhs _ _ _ _ (by grind),Zhs _ _ _ _ (by grind),Zhs _ _ _ _ hkb];exact hB.block k hk
  simp_all[Zhs,World.setCell,Zin]
 grind
end Vm
namespace Vm
open Go Go.Proofs Go.RowKit
theorem LI(w:World)(f:FuncId)(vs:Array Value)(ws:List Int)(g o cap:Nat)(hw:Words w ws g o cap)(hg:g<w.heap.size)(a:Nat)(x:Int)(hx:ws[a]?=some x)(hna:¬(adr x).2=0):
  Calls Sol.prog 133 #[.slice (some ⟨g,o,none⟩) ws.length cap,.int .i64 a,.func (.func f) #[] vs] w λe w'=>e=begE a x/\Below w.heap.size w w':=by
 have hl:=hw.len;have hc:=hw.le;have hm:=hw.cap;have hlt:a<ws.length:=(ZgL.1 hx).1;have hlt':(a:Int)<ws.length:=by omega
 have hu:U64 x:=hw.u64 x (ZgQ hx);have c0:=hw.at_ a x hx;have cc:∀W,Below w.heap.size w W->W.cell? ⟨g,o+a,none⟩=some (.int .u64 x):=λW hb=>(hb.cell (p:=⟨g,o+a,none⟩) hg).trans c0;have he:begE a x=if(unpk x).2.2=0 then .returned (obA ⟨a,(unpk x).1,(unpk x).2.1,false,0⟩)else .panicked (XE 3):=rfl
 generalize begE a x=E at*;have HC:=Zhg cc;have hfn:=λW=>Z5W W f vs;have hna':((adr x).2=0)=False:=ZkH hna;clear hw hx cc;by_cases h0:(unpk x).2.2=0
 ·rw[if_pos h0]at he;have HE:=Zhg he;clear he;go_enter Sol.func133,Try.ntmps133
  go_wp2_with (first
   |(go_at_call 44;refine(WC hu _).mono ?_;rintro e w1 ⟨rfl,hb1⟩;have HB1:=Zhg hb1;have d0:=HC.out w1 (((((ZhA _ w).alloc (ZgP _) _).alloc (by simp) _).trans (hb1.mono (by simp;omega))));clear hb1)
   | (go_at_call 69;refine(UC hu _).mono ?_;rintro e w2 ⟨rfl,hb2⟩;have HB2:=Zhg hb2
      have hB:=HB1.out.block;have r0:w2.heap[w.heap.size]?=some (.cells #[.int .i64 0,.int .i64 0,.int .i64 0,.bool false,.int .u64 0] 59 (0,0)):=(hb2.block _ (by have:=HB1.out.size;simp at this;omega)).trans ((HB1.out.block _ (by simp;omega)).trans ((ZhQ _ _ _ (by simp)).trans (Zhv w _)));have r1:w2.heap[w.heap.size+1]?=some (.cells #[.int .i64 a,.int .i64 0,.int .i64 0,.bool false,.int .u64 0] 59 (0,0)):=(hb2.block _ (by have:=HB1.out.size;simp at this;omega)).trans ((HB1.out.block _ (by simp)).trans (by have:=Zhv (w.alloc (.cells #[.int .i64 0,.int .i64 0,.int .i64 0,.bool false,.int .u64 0] 59)) (.cells #[.int .i64 a,.int .i64 0,.int .i64 0,.bool false,.int .u64 0] 59);simp_all));obtain⟨⟨x0,x1,x2,x3,x4⟩,y0,y1,y2,y3,y4⟩:=row5 r0 (.cells #[.int .i64 (unpk x).1,.int .i64 (unpk x).2.1] 52);obtain⟨⟨p0,p1,p2,p3,p4⟩,q0,q1,q2,q3,q4⟩:=row5 r1 (.cells #[.int .i64 (unpk x).1,.int .i64 (unpk x).2.1] 52);have HR:=Zhg (And.intro r0 r1);clear hb2 hB r0 r1))
  refine ZiJ (v:=obA ⟨a,(unpk x).1,(unpk x).2.1,false,0⟩) ?_ rfl ⟨HE.out.symm,?_⟩
  ·simp[results,Try.results133,go_sem,obA,x0,x1,x2,x3,x4]
  ·have h1:=(((ZhA _ w).alloc (ZgP _) (.cells #[.int .i64 0,.int .i64 0,.int .i64 0,.bool false,.int .u64 0] 59)).alloc (by simp) (.cells #[.int .i64 a,.int .i64 0,.int .i64 0,.bool false,.int .u64 0] 59)).trans (HB1.out.mono (by simp;omega));have h2:=(h1.trans (HB2.out.mono (by have:=h1.size;omega))).alloc (by have:=h1.size;have:=HB2.out.size;omega) (.cells #[.int .i64 (unpk x).1,.int .i64 (unpk x).2.1] 52);exact((((((h2.setCell (p:=⟨w.heap.size+1,1,none⟩) (by simp) _).setCell (p:=⟨w.heap.size+1,2,none⟩) (by simp) _).setCell (p:=⟨w.heap.size,0,none⟩) (ZgP _) _).setCell (p:=⟨w.heap.size,1,none⟩) (ZgP _) _).setCell (p:=⟨w.heap.size,2,none⟩) (ZgP _) _).setCell (p:=⟨w.heap.size,3,none⟩) (ZgP _) _).setCell (p:=⟨w.heap.size,4,none⟩) (ZgP _) _
 ·rw[if_neg h0]at he;have HE:=Zhg he;clear he;have h0':((unpk x).2.2=0)=False:=ZkH h0;go_enter Sol.func133,Try.ntmps133
  go_wp2_with (first
   |(go_at_call 44;refine(WC hu _).mono ?_;rintro e w1 ⟨rfl,hb1⟩;have HB1:=Zhg hb1;have d0:=HC.out w1 (((((ZhA _ w).alloc (ZgP _) _).alloc (by simp) _).trans (hb1.mono (by simp;omega))));clear hb1)
   |(go_at_call 69;refine(UC hu _).mono ?_;rintro e w2 ⟨rfl,hb2⟩;have HB2:=Zhg hb2;clear hb2))
  refine⟨rfl,HE.out.symm,?_⟩;have h1:=(((ZhA _ w).alloc (ZgP _) (.cells #[.int .i64 0,.int .i64 0,.int .i64 0,.bool false,.int .u64 0] 59)).alloc (by simp) (.cells #[.int .i64 a,.int .i64 0,.int .i64 0,.bool false,.int .u64 0] 59)).trans (HB1.out.mono (by simp;omega));exact(h1.trans (HB2.out.mono (by have:=h1.size;omega))).alloc (by have:=h1.size;have:=HB2.out.size;omega) _
theorem UH(w:World)(vs:Array Value)(ws:List Int)(g o cap:Nat)(hw:Words w ws g o cap)(hg:g<w.heap.size)(a:Nat)(x:Int)(hx:ws[a]?=some x)(hna:(adr x).2=0)
  (hcall:∀W,Below w.heap.size w W->Calls Sol.prog 129 vs W λe W'=>e=.panicked (XE 3)/\Below W.heap.size W W'):
  Calls Sol.prog 133 #[.slice (some ⟨g,o,none⟩) ws.length cap,.int .i64 a,.func (.func 129) #[] vs] w λe w'=>e=.panicked (XE 3)/\Below w.heap.size w w':=by
 have hl:=hw.len;have hc:=hw.le;have hm:=hw.cap;have hlt:a<ws.length:=(ZgL.1 hx).1;have hlt':(a:Int)<ws.length:=by omega
 have hu:U64 x:=hw.u64 x (ZgQ hx);have c0:=hw.at_ a x hx;have hfn:=λW=>Z5W W 129 vs;have HX:=Zhg hcall;clear hw hx hcall;go_enter Sol.func133,Try.ntmps133
 go_wp2_with (first
  | (go_at_call 44;refine(WC hu _).mono ?_;rintro e w1 ⟨rfl,hb1⟩
     have hB:Below w.heap.size w w1:=((((ZhA _ w).alloc (ZgP _) _).alloc (by simp) _).trans (hb1.mono (by simp;omega)));have r1:w1.heap[w.heap.size+1]?=some (.cells #[.int .i64 a,.int .i64 0,.int .i64 0,.bool false,.int .u64 0] 59 (0,0)):=(hb1.block _ (by simp)).trans (by have:=Zhv (w.alloc (.cells #[.int .i64 0,.int .i64 0,.int .i64 0,.bool false,.int .u64 0] 59)) (.cells #[.int .i64 a,.int .i64 0,.int .i64 0,.bool false,.int .u64 0] 59);simp_all);have p3:w1.cell? ⟨w.heap.size+1,3,none⟩=some (.bool false):=by rw[Zh3 _ _ _ _ _ _ r1];rfl
     have p4:w1.cell? ⟨w.heap.size+1,4,none⟩=some (.int .u64 0):=by rw[Zh3 _ _ _ _ _ _ r1];rfl
     have q3:=YY (o:=3) r1;have q4:=YY (o:=4) r1;have HB:=Zhg hB;clear hb1 hB r1)
  |(go_at_call 129;refine(HX.out _ ?_).mono ?_;rotate_left;rintro e w2 ⟨rfl,hb2⟩;have HB2:=Zhg hb2;clear hb2))
 case refine_1=>exact(HB.out.setCell (p:=⟨w.heap.size+1,3,none⟩) (by simp) _).setCell (p:=⟨w.heap.size+1,4,none⟩) (by simp) _
 case refine_2=>
  have h2:=(HB.out.setCell (p:=⟨w.heap.size+1,3,none⟩) (by simp) (.bool true)).setCell (p:=⟨w.heap.size+1,4,none⟩) (by simp) (.int .u64 (adr x).1);exact⟨rfl,rfl,h2.trans (HB2.out.mono h2.size)⟩
theorem Z57{w W:World}{r:Option Nat}(h:w.grownBy W r){p:Addr}(hp:w.heap.size<=p.block)(u:Value):w.grownBy (W.setCell p u) r:=
 ⟨h.os,h.tape,h.output,by simpa[World.setCell]using h.size,λk hk hne=>(Zhs _ _ _ _ (by omega)).trans (h.block k hk hne)⟩
theorem LH(w:World)(vs:Array Value)(ws:List Int)(g o cap:Nat)(hw:Words w ws g o cap)(hg:g<w.heap.size)(a:Nat)(x:Int)(hx:ws[a]?=some x)(hna:(adr x).2=0)
  (bt:Nat) (O:Obj) (s p:Int) (hbt:bt<w.heap.size)
  (hcall:∀W,Below w.heap.size w W->Calls Sol.prog 129 vs W λe W'=>e=.returned (.agg #[.int .i64 s,.int .i64 p])/\W.grownBy W' (some bt)/\W'.heap[bt]?=some O):
  Calls Sol.prog 133 #[.slice (some ⟨g,o,none⟩) ws.length cap,.int .i64 a,.func (.func 129) #[] vs] w λe w'=>e=.returned (obA ⟨a,s,p,true,(adr x).1⟩)/\w.grownBy w' (some bt)/\w'.heap[bt]?=some O:=by
 have hl:=hw.len;have hc:=hw.le;have hm:=hw.cap;have hlt:a<ws.length:=(ZgL.1 hx).1;have hlt':(a:Int)<ws.length:=by omega
 have hu:U64 x:=hw.u64 x (ZgQ hx);have c0:=hw.at_ a x hx;have hfn:=λW=>Z5W W 129 vs;have HX:=Zhg hcall;clear hw hx hcall;go_enter Sol.func133,Try.ntmps133
 go_wp2_with (first
  | (go_at_call 44;refine(WC hu _).mono ?_;rintro e w1 ⟨rfl,hb1⟩
     have hB:Below w.heap.size w w1:=((((ZhA _ w).alloc (ZgP _) _).alloc (by simp) _).trans (hb1.mono (by simp;omega)));have r1:w1.heap[w.heap.size+1]?=some (.cells #[.int .i64 a,.int .i64 0,.int .i64 0,.bool false,.int .u64 0] 59 (0,0)):=(hb1.block _ (by simp)).trans (by have:=Zhv (w.alloc (.cells #[.int .i64 0,.int .i64 0,.int .i64 0,.bool false,.int .u64 0] 59)) (.cells #[.int .i64 a,.int .i64 0,.int .i64 0,.bool false,.int .u64 0] 59);simp_all);have p3:w1.cell? ⟨w.heap.size+1,3,none⟩=some (.bool false):=by rw[Zh3 _ _ _ _ _ _ r1];rfl
     have p4:w1.cell? ⟨w.heap.size+1,4,none⟩=some (.int .u64 0):=by rw[Zh3 _ _ _ _ _ _ r1];rfl
     have q3:=YY (o:=3) r1;have q4:=YY (o:=4) r1;have r0:w1.heap[w.heap.size]?=some (.cells #[.int .i64 0,.int .i64 0,.int .i64 0,.bool false,.int .u64 0] 59 (0,0)):=(hb1.block _ (by simp;omega)).trans ((ZhQ _ _ _ (by simp)).trans (Zhv w _));have HR:=Zhg (And.intro r0 r1);have HB:=Zhg hB;clear hb1 hB r0 r1)
  | (go_at_call 129;refine(HX.out _ ?_).mono ?_;rotate_left;rintro e w2 ⟨rfl,hb2,ho2⟩
     have HB2:=Zhg hb2;have HO2:=Zhg ho2;have z1:w2.heap[w.heap.size+1]?=some (.cells #[.int .i64 a,.int .i64 0,.int .i64 0,.bool true,.int .u64 (adr x).1] 59 (0,0)):=(hb2.block _ (by simp[World.setCell];exact ZH HR.out.2) (by simp;omega)).trans (by simp[World.setCell,Zin,HR.out.2]);have z0:w2.heap[w.heap.size]?=some (.cells #[.int .i64 0,.int .i64 0,.int .i64 0,.bool false,.int .u64 0] 59 (0,0)):=(hb2.block _ (by simp[World.setCell];exact ZH HR.out.1) (by simp;omega)).trans (by simp[World.setCell,Zin,HR.out.1]);have s0:w2.cell? ⟨w.heap.size+1,0,none⟩=some (.int .i64 a):=by rw[Zh3 _ _ _ _ _ _ z1];rfl
     have s1:w2.cell? ⟨w.heap.size+1,1,none⟩=some (.int .i64 0):=by rw[Zh3 _ _ _ _ _ _ z1];rfl
     have s2:w2.cell? ⟨w.heap.size+1,2,none⟩=some (.int .i64 0):=by rw[Zh3 _ _ _ _ _ _ z1];rfl
     have s3:w2.cell? ⟨w.heap.size+1,3,none⟩=some (.bool true):=by rw[Zh3 _ _ _ _ _ _ z1];rfl
     have s4:w2.cell? ⟨w.heap.size+1,4,none⟩=some (.int .u64 (adr x).1):=by rw[Zh3 _ _ _ _ _ _ z1];rfl
     have t0:w2.cell? ⟨w.heap.size,0,none⟩=some (.int .i64 0):=by rw[Zh3 _ _ _ _ _ _ z0];rfl
     have t1:w2.cell? ⟨w.heap.size,1,none⟩=some (.int .i64 0):=by rw[Zh3 _ _ _ _ _ _ z0];rfl
     have t2:w2.cell? ⟨w.heap.size,2,none⟩=some (.int .i64 0):=by rw[Zh3 _ _ _ _ _ _ z0];rfl
     have t3:w2.cell? ⟨w.heap.size,3,none⟩=some (.bool false):=by rw[Zh3 _ _ _ _ _ _ z0];rfl
     have t4:w2.cell? ⟨w.heap.size,4,none⟩=some (.int .u64 0):=by rw[Zh3 _ _ _ _ _ _ z0];rfl
     have u1:=YY (o:=1) z1;have u2:=YY (o:=2) z1;have v0:=YY (o:=0) z0;have v1:=YY (o:=1) z0;have v2:=YY (o:=2) z0;have v3:=YY (o:=3) z0;have v4:=YY (o:=4) z0;clear hb2 ho2 z0 z1))
 case refine_1=>exact(HB.out.setCell (p:=⟨w.heap.size+1,3,none⟩) (by simp) _).setCell (p:=⟨w.heap.size+1,4,none⟩) (by simp) _
 next=>
  have h2:=(HB.out.setCell (p:=⟨w.heap.size+1,3,none⟩) (by simp) (.bool true)).setCell (p:=⟨w.heap.size+1,4,none⟩) (by simp) (.int .u64 (adr x).1);have hg2:w.grownBy w2 (some bt):=⟨HB2.out.os.trans h2.os,HB2.out.tape.trans h2.tape,HB2.out.output.trans h2.output,Zhc h2.size HB2.out.size,λk hk hne=>(HB2.out.block k (ZgV hk h2.size) hne).trans (h2.block k hk)⟩;have k1:bt≠w.heap.size+1:=by omega
  have k2:bt≠w.heap.size:=by omega
  clear h2;refine ZiJ (v:=obA ⟨a,s,p,true,(adr x).1⟩) ?_ rfl ⟨rfl,?_,?_⟩
  ·simp[results,Try.results133,go_sem,obA,t0,t1,t2,t3,t4]
  ·grind [Z57]
  ·rw[Zhs _ _ _ _ k2,Zhs _ _ _ _ k2,Zhs _ _ _ _ k2,Zhs _ _ _ _ k2,Zhs _ _ _ _ k2,Zhs _ _ _ _ k1,Zhs _ _ _ _ k1];exact HO2.out
end Vm
namespace Vm
open Go Go.Proofs Go.RowKit Go.Shelf
def rowB(W:World)(bl:Nat):Option Nat:=(W.cell? ⟨bl,0,none⟩).bind Value.ownBlock
structure KpW (bl base:Nat) (A B:World):Prop where
 size:A.heap.size<=B.heap.size
 same:∀k o,A.heap[k]?=some o->o.isCells=true->k≠bl->(k<base\/rowB A bl≠some k)->B.heap[k]?=some o
 row:∀k,k<A.heap.size->rowB B bl=some k->rowB A bl=some k
theorem KpW.trans{bl base:Nat}{A B C:World}(h:KpW bl base A B)(k:KpW bl base B C):KpW bl base A C:=
 ⟨Zhc h.size k.size,λi o hi hc hn hr=>k.same i o (h.same i o hi hc hn hr) hc hn (hr.imp id λhne e=>hne (h.row i (ZH hi) e)),λi hi hr=>h.row i hi (k.row i (ZgV hi h.size) hr)⟩
theorem KpW.put{bl base:Nat}{W:World}{l:Nat}{o:Obj}(o':Obj)(hl:W.heap[l]?=some o)(ho:o.isCells=false)(hne:bl≠l):KpW bl base W (W.putObj l o'):=by
 have hcell:(W.putObj l o').cell? ⟨bl,0,none⟩=W.cell? ⟨bl,0,none⟩:=ZhG (ZhS (by omega));refine⟨(ZjN W l o').size,λk o2 hk hk2 _ _=> ?_,λk _ hr=> ?_⟩
 ·grind [World.putObj_heap_other,trans]
 simp_all[rowB]
def Z79(ws:List Int)(g o cap:Nat)(gv:Value)(shs:List (Int×Int))(old:Bool)(bt:Option Nat)(K:Nat->World->Prop):Prop:=
 ∀(W:World) (a t:Nat) (x:Int),Words W ws g o cap->g<W.heap.size->K t W->ws[a]?=some x->
  Calls Sol.prog 133 #[.slice (some ⟨g,o,none⟩) ws.length cap,.int .i64 a,gv] W λe W'=>W.grownBy W' bt/\match objR shs old a t x with
   |some (ob,t')=>e=.returned (obA ob)/\K t' W'
   |none=>e=.panicked (XE 3)
def endS(ws:List Int)(shs:List (Int×Int))(old:Bool)(K:Nat->World->Prop)(xs:List Ob)(W:World):Prop:=
 ∃t,K t W/\Zw ws shs old=(if t<shs.length then([],3)else(xs,0))
def endP(ws:List Int)(shs:List (Int×Int))(old:Bool)(chain:List PanicEntry)(pre:List Ob)(W:World):Prop:=
 ∃e,(e=2\/e=3)/\chain=XE e/\Zw ws shs old=([],e)
structure Stat6 (ws:List Int) (g o cap:Nat) (sv:Value) (bw bg base bl:Nat) (bt:Option Nat) (gv:Value) (W:World):Prop where
 words:Words W ws g o cap
 sv_:sv=.slice (some ⟨g,o,none⟩) ws.length cap\/(ws=[]/\∃a c,sv=.slice a 0 c)
 hbw:W.heap[bw]?=some (.cells #[sv] 35 (0,0))
 hbg:W.heap[bg]?=some (.cells #[gv] 190 (0,0))
 gb:ws≠[]->∃ob,W.heap[g]?=some ob/\ob.isCells=true
 lt:g<base/\bw<base/\bg<base/\base<=W.heap.size
 ne:g≠bl/\bw≠bl/\bg≠bl
 nt:some g≠bt/\some bw≠bt/\some bg≠bt
section
variable {ws:List Int}{g o cap bw bg base bl:Nat}{bt:Option Nat}{sv gv:Value}{W W':World}
theorem Stat6.of(h:Stat6 ws g o cap sv bw bg base bl bt gv W)(hs:W.heap.size<=W'.heap.size)(hb:∀k ob,W.heap[k]?=some ob->ob.isCells=true->k<base->k≠bl->some k≠bt->W'.heap[k]?=some ob):Stat6 ws g o cap sv bw bg base bl bt gv W':=by
 refine⟨⟨λi x hx=> ?_,h.words.le,h.words.cap,h.words.len,h.words.u64⟩,h.sv_,hb _ _ h.hbw rfl h.lt.2.1 h.ne.2.1 h.nt.2.1,hb _ _ h.hbg rfl h.lt.2.2.1 h.ne.2.2 h.nt.2.2,λhn=> ?_,⟨h.lt.1,h.lt.2.1,h.lt.2.2.1,Zhc h.lt.2.2.2 hs⟩,h.ne,h.nt⟩
 ·have hn:ws≠[]:=λe=>by simp_all
  obtain⟨ob,ho,hc⟩:=h.gb hn;have h2:=hb _ _ ho hc h.lt.1 h.ne.1 h.nt.1;rw[<-h.words.at_ i x hx]
  grind [World.cell?_of_block]
 ·obtain⟨ob,ho,hc⟩:=h.gb hn;exact⟨ob,hb _ _ ho hc h.lt.1 h.ne.1 h.nt.1,hc⟩
theorem Stat6.grown(h:Stat6 ws g o cap sv bw bg base bl bt gv W)(hg:W.grownBy W' bt):Stat6 ws g o cap sv bw bg base bl bt gv W':=
 h.of hg.size λk ob hk _ _ _ hn=>(hg.block k (ZH hk) hn).trans hk
theorem Stat6.kp(h:Stat6 ws g o cap sv bw bg base bl bt gv W)(hk:KpW bl base W W'):Stat6 ws g o cap sv bw bg base bl bt gv W':=
 h.of hk.size λk ob hk1 hc hlt hne _=>hk.same k ob hk1 hc hne (.inl hlt)
end
theorem Ve{W W':World}(hb:Below W.heap.size W W')(r:Option Nat):W.grownBy W' r:=⟨hb.os,hb.tape,hb.output,hb.size,λk hk _=>hb.block k hk⟩
theorem Z9G{ws:List Int}{g o cap:Nat}:Z79 ws g o cap .nilFunc [] false none (λt _=>t=0):=by
 intro W a t x hw hg hK hx;refine(Z4A W ws g o cap hw hg a x hx).mono ?_;rintro e W' ⟨rfl,hb⟩;refine⟨Ve hb none,?_⟩;unfold objR begE
 grind
theorem Shps.grown{W W':World}{shs:List (Int×Int)}{bs:Nat}{v:Value}{r:Option Nat}(h:Shps W shs bs v)(hg:W.grownBy W' r)(hbs:some bs≠r)(hgb:shs≠[]->∀g o cap,v=.slice (some ⟨g,o,none⟩) shs.length cap->some g≠r):Shps W' shs bs v:=by
 refine⟨(hg.block _ (ZH h.box) hbs).trans h.box,?_⟩;rcases h.val with ⟨g,o,cap,rfl,h1,h2,h3,h4⟩|⟨a,cap,rfl,rfl⟩
 ·refine .inl ⟨g,o,cap,rfl,h1,h2,ZgV h3 hg.size,λi x hx=> ?_⟩;have hb:=hg.block g h3 (hgb (λe=>by simp_all) _ _ _ rfl)
  grind [World.cell?_of_block,trans]
 simp
def KOld(shs:List (Int×Int))(bt bs:Nat)(v:Value)(t:Nat)(W:World):Prop:=W.heap[bt]?=some (.cells #[.int .i64 t] 3 (0,0))/\Shps W shs bs v/\t<=shs.length
theorem Z9H{ws:List Int}{g o cap:Nat}{shs:List (Int×Int)}{bt bs:Nat}{v:Value}(hl:shs.length<=1000000)(hbs:bs≠bt)(hgb:shs≠[]->∀g o cap,v=.slice (some ⟨g,o,none⟩) shs.length cap->g≠bt):
  Z79 ws g o cap (.func (.func 129) #[] #[.pointer (some ⟨bt,0,none⟩),.pointer (some ⟨bs,0,none⟩)]) shs true (some bt) (KOld shs bt bs v):=by
 intro W a t x hw hg hK hx;obtain⟨hb,hs,ht⟩:=hK;have hbs':some bs≠some bt:=λe=>hbs (by grind);have hgb':shs≠[]->∀g o cap,v=.slice (some ⟨g,o,none⟩) shs.length cap->some g≠some bt:=λhn g o cap e e2=>hgb hn g o cap e (by grind);have hsB:∀W',Below W.heap.size W W'->Shps W' shs bs v:=λW' hB=>hs.grown (Ve hB none) (by simp) (λ_ _ _ _ _=>by simp);have hbB:∀W',Below W.heap.size W W'->W'.heap[bt]?=some (.cells #[.int .i64 t] 3 (0,0)):=λW' hB=>(hB.block _ (ZH hb)).trans hb;by_cases ha:(adr x).2=0
 ·unfold objR;rw[if_pos ⟨rfl,ha⟩];cases hxs:shs[t]? with
  |none=>
   have:t=shs.length:=by have:=Zje.1 hxs;omega
   subst this;refine(UH W _ ws g o cap hw hg a x hx ha λW' hB=>Z7D W' shs bt bs v hl (hsB W' hB) (hbB W' hB)).mono ?_;rintro e W' ⟨rfl,hB⟩;exact⟨Ve hB _,rfl⟩
  |some s=>
   simp only;cases hok:Zs s.1 s.2
   ·refine(UH W _ ws g o cap hw hg a x hx ha λW' hB=>Z7C W' shs bt bs t v s hl (hsB W' hB) (hbB W' hB) hxs hok).mono ?_;rintro e W' ⟨rfl,hB⟩;exact⟨Ve hB _,by simp⟩
   ·refine(LH W _ ws g o cap hw hg a x hx ha bt _ s.1 s.2 (ZH hb) λW' hB=>Z9T W' shs bt bs t v s hl (hsB W' hB) (hbB W' hB) hxs hok hbs (hgb (λe=>by simp_all))).mono ?_;rintro e W' ⟨rfl,hG,hO⟩;have hlt:=(ZgL.1 hxs).1;refine⟨hG,?_⟩;simp only[Zhp];exact⟨trivial,hO,hs.grown hG hbs' hgb',by omega⟩
 ·refine(LI W _ _ ws g o cap hw hg a x hx ha).mono ?_;rintro e W' ⟨rfl,hB⟩;refine⟨Ve hB _,?_⟩;unfold objR begE;rw[if_neg (λhc=>ha hc.2)];by_cases hu:(unpk x).2.2=0
  ·simp only[hu,Zhp];exact⟨trivial,hbB W' hB,hsB W' hB,ht⟩
  simp_all
end Vm
end
section
namespace Vm
open Go Go.Proofs Go.RowKit Go.Shelf
def Zbi(bl:Nat)(W:World):Prop:=∀k,rowB W bl=some k->k<W.heap.size
def J9{A B C:World}{r:Option Nat}(h:A.grownBy B r)(k:B.grownBy C r):A.grownBy C r:=
 ⟨k.os.trans h.os,k.tape.trans h.tape,k.output.trans h.output,Zhc h.size k.size,λi hi hn=>(k.block i (ZgV hi h.size) hn).trans (h.block i hi hn)⟩
def Z4l(ws:List Int)(shs:List (Int×Int))(old:Bool){a t t':Nat}{x:Int}{ob:Ob}(hx:ws[a]?=some x)(ho:objR shs old a t x=some (ob,t')){f:Nat}{pre:List Ob}:
  Xe ws shs old (f+1) a t pre=if(ws.length:Int)<a+1+ob.size then([],2)else if ZV ((ws.drop (a+1)).take ob.size.toNat) ob.gone ob.ptrs 0=false then([],3)else Xe ws shs old f (a+1+ob.size.toNat) t' (pre++[ob]):=by
 simp_all[Xe]
def Z4P(n:Nat){w:World}{ws:List Int}{g o cap bw bg base bl:Nat}{bt:Option Nat}{sv gv:Value}{shs:List (Int×Int)}{old:Bool}{K:Nat->World->Prop}(hst:Stat6 ws g o cap sv bw bg base bl bt gv w)
  (hbl:bl<base) (hltb:some bl≠bt) (hbeg:Z79 ws g o cap gv shs old bt K) (hK0:K 0 w) (hKB:∀t W W',K t W->Below W.heap.size W W'->K t W') (hKK:∀t W W',K t W->KpW bl base W W'->K t W'):
  SeqP Fence.wide n Sol.prog 132 #[.pointer (some ⟨bw,0,none⟩),.pointer (some ⟨bg,0,none⟩)] (λob:Ob=> #[obA ob]) (KpW bl base) (endS ws shs old K) (endP ws shs old) ws.length bt (Zbi bl) w:=by
 intro l J W hW hJx hJ hY h0;refine callsIn_of_wp Sol.func132 rfl trivial ?_ rfl;simp only[Try.ntmps132,Zie,ZhL,Ziy,Nat.reduceAdd,Nat.reduceSub,Zjc,Zjd,Zjw,Zjj,ZhM,ZhX];have HS0:=Zhg (hst.grown (Ve hW bt));have HK0:=Zhg (hKB 0 w W hK0 hW);have HJ0:=Zhg h0;clear h0
 gi_wp2
 gi_loopw [4] (λp wr=>∃(a t f:Nat) (pre:List Ob),p=.int .i64 a/\Hid (J pre wr/\K t wr/\Stat6 ws g o cap sv bw bg base bl bt gv wr/\ws.length<f+a/\0<f/\a<=ws.length/\pre.length<=a/\Zw ws shs old=Xe ws shs old f a t pre))
  (λp _=>ws.length- (intOf p).toNat)
 case atStart=>exact⟨0,0,ws.length+1,[],rfl,Zhg ⟨HJ0.out,HK0.out,HS0.out,by omega,by omega,by omega,by simp,rfl⟩⟩
 case round=>
  obtain⟨a,t,f,pre,rfl,HI⟩:=hrel;have hst':=HI.out.2.2.1;have hsv:=hst'.sv_;have c1:wr.cell? ⟨bw,0,none⟩=some sv:=by rw[Zh3 _ _ _ _ _ _ hst'.hbw];rfl
  have c2:wr.cell? ⟨bg,0,none⟩=some gv:=by rw[Zh3 _ _ _ _ _ _ hst'.hbg];rfl
  have hlen:=hst'.words.len;clear hst';by_cases hlt:a<ws.length
  ·obtain⟨x,hx⟩:∃x,ws[a]?=some x:=⟨_,ZgJ hlt⟩;obtain rfl:sv=.slice (some ⟨g,o,none⟩) ws.length cap:=hsv.resolve_right (λh=>by simp_all);clear hsv;have hlt':((a:Int)<ws.length)=True:=eq_true (by omega);have hb:=hbeg wr a t x HI.out.2.2.1.words (by have:=HI.out.2.2.1.lt;omega) HI.out.2.1 hx;cases ho:objR shs old a t x with
   |none=>
    rw[ho]at hb;have HX:=Zhg hb;clear hb
    gi_wp2
    refine⟨trivial,λh=>(by cases h),(Zk0.2 HX.out).mono ?_⟩;rintro e w1 ⟨hg1,rfl⟩;have HG1:=Zhg hg1;clear hg1
    gi_wp2
    refine⟨rfl,.inr ⟨_,pre,rfl,⟨3,.inr rfl,rfl,?_⟩,hJ _ _ _ _ HI.out.1 HG1.out (λr e=>e.symm)⟩⟩;obtain⟨_,_,_,hf,hf0,_,_,hR⟩:=HI.out;cases f with
    |zero=>omega
    |succ f=>
     simp_all[Xe]
   |some q=>
    obtain⟨ob,t'⟩:=q;rw[ho]at hb;have HX:=Zhg hb;clear hb;obtain⟨hsh,hat⟩:=Um ho
    gi_wp2
    refine⟨trivial,λh=>(by cases h),(Zk0.2 HX.out).mono ?_⟩;rintro e w1 ⟨hg1,rfl,hk1⟩;have HG1:=Zhg hg1;have HK1:=Zhg hk1;have hS1:=HI.out.2.2.1.grown hg1;have HS1:=Zhg hS1
    have e1:∀O,(w1.alloc O).cell? ⟨bw,0,none⟩=some (.slice (some ⟨g,o,none⟩) ws.length cap):=λO=>by
     rw[Ziq _ _ _ (ZH hS1.hbw),Zh3 _ _ _ _ _ _ hS1.hbw];rfl
    have hgO:wr.grownBy (w1.alloc (.cells #[.int .i64 a,.int .i64 ob.size,.int .i64 ob.ptrs,.bool ob.gone,.int .u64 ob.target] 59)) bt:=J9 hg1 (Zi5 _ _ _);have hSO:=Zhg (HI.out.2.2.1.grown hgO);have hh:=Z59 (w1.alloc (.cells #[.int .i64 a,.int .i64 ob.size,.int .i64 ob.ptrs,.bool ob.gone,.int .u64 ob.target] 59)) ws g o cap hSO.out.words (by have:=hSO.out.lt;omega) ob a hat hlt hsh;unfold obA at hh;rw[hat]at hh;have HGO:=Zhg hgO;have HHold:=Zhg hh;have hstep:∀f pre,Xe ws shs old (f+1) a t pre=_:=λf pre=>Z4l ws shs old hx ho (f:=f) (pre:=pre);have HST:=Zhg hstep;clear hg1 hk1 hS1 hgO hh hstep hx;unfold obA
    gi_wp2
    refine⟨trivial,λh=>(by cases h),(Zk0.2 HHold.out).mono ?_⟩;rintro e w2 ⟨rfl,hb2⟩;have hG2:wr.grownBy w2 bt:=J9 HGO.out (Ve hb2 bt);have HG2:=Zhg hG2;have HB2:=Zhg hb2;unfold Z7F;by_cases h1:(ws.length:Int)<ob.at_+1+ob.size
    ·rw[if_pos h1];rw[hat]at h1;clear hb2 hG2
     gi_wp2
     refine⟨rfl,.inr ⟨_,pre,rfl,⟨2,.inl rfl,rfl,?_⟩,hJ _ _ _ _ HI.out.1 HG2.out (λr e=>e.symm)⟩⟩;obtain⟨_,_,_,hf,hf0,_,_,hR⟩:=HI.out;obtain⟨f,rfl⟩:∃f',f=f'+1:=⟨f-1,by omega⟩;rw[hR,HST.out,if_pos h1]
    ·rw[if_neg h1];by_cases h2:ZV ((ws.drop (ob.at_.toNat+1)).take ob.size.toNat) ob.gone ob.ptrs 0=false
     ·rw[if_pos h2];rw[hat]at h1 h2;clear hb2 hG2
      gi_wp2
      refine⟨rfl,.inr ⟨_,pre,rfl,⟨3,.inr rfl,rfl,?_⟩,hJ _ _ _ _ HI.out.1 HG2.out (λr e=>e.symm)⟩⟩;obtain⟨_,_,_,hf,hf0,_,_,hR⟩:=HI.out;obtain⟨f,rfl⟩:∃f',f=f'+1:=⟨f-1,by omega⟩;rw[hR,HST.out,if_neg (by omega)];simp_all
     ·rw[if_neg h2];rw[hat]at h1 h2;simp only[Zhl]at h2;have HH2:=Zhg (And.intro h1 h2);have hJ2:=hJ _ _ _ _ HI.out.1 hG2 (λr e=>e.symm);have HJ2:=Zhg hJ2;have HS2:=Zhg (HI.out.2.2.1.grown hG2);have hbx:w2.heap[w1.heap.size]?=some (.cells #[.int .i64 a,.int .i64 ob.size,.int .i64 ob.ptrs,.bool ob.gone,.int .u64 ob.target] 59 (0,0)):=(hb2.block _ (by simp)).trans (Zhv w1 _);have HBX:=Zhg hbx;obtain⟨fn,tmps,assign,body,hy,hR⟩:=hY pre ob w2 hJ2 (by have:=HI.out.2.2.2.2.2.2.1;omega);unfold obA at hy;rw[hat]at hy;have d0:w2.cell? ⟨w1.heap.size,0,none⟩=some (.int .i64 a):=by rw[Zh3 _ _ _ _ _ _ hbx];rfl
      have d1:w2.cell? ⟨w1.heap.size,1,none⟩=some (.int .i64 ob.size):=by rw[Zh3 _ _ _ _ _ _ hbx];rfl
      have d2:w2.cell? ⟨w1.heap.size,2,none⟩=some (.int .i64 ob.ptrs):=by rw[Zh3 _ _ _ _ _ _ hbx];rfl
      have d3:w2.cell? ⟨w1.heap.size,3,none⟩=some (.bool ob.gone):=by rw[Zh3 _ _ _ _ _ _ hbx];rfl
      have d4:w2.cell? ⟨w1.heap.size,4,none⟩=some (.int .u64 ob.target):=by rw[Zh3 _ _ _ _ _ _ hbx];rfl
      clear hb2 hG2 hJ2 hbx
      gi_wp2
      refine⟨λh=>(by cases h),hR.mono ?_⟩;rintro e W3 ⟨rfl,hJ3,hk3⟩;have HJ3:=Zhg hJ3;have HK3:=Zhg hk3
      have hrow2:rowB w2 bl≠some w1.heap.size:=by
       intro e;have hlb:bl<wr.heap.size:=by have:=HI.out.2.2.1.lt.2.2.2;omega
       have:rowB w2 bl=rowB wr bl:=by
        unfold rowB;rw[ZhG (a:=⟨bl,0,none⟩) (HG2.out.block bl hlb hltb)]
       rw[this]at e;have:=hJx _ _ HI.out.1 _ e;have:=HG1.out.size;omega
      have hbx3:=hk3.same _ _ HBX.out rfl (by have:=HI.out.2.2.1.lt.2.2.2;have:=HG1.out.size;omega) (.inr hrow2);have f1:W3.cell? ⟨w1.heap.size,1,none⟩=some (.int .i64 ob.size):=by rw[Zh3 _ _ _ _ _ _ hbx3];rfl
      have hS3:=HS2.out.kp hk3;have hK2:K t' w2:=hKB _ _ _ HK1.out (((ZhA _ _).alloc (ZgP _) _).trans (HB2.out.mono (by simp)));have hK3:=hKK _ _ _ hK2 hk3;have HS3:=Zhg (And.intro hS3 hK3);obtain⟨m,hm⟩:∃m:Nat,ob.size=m:=⟨ob.size.toNat,by have:=(Zf.1 hsh).1;omega⟩;rw[hm]at f1;have hm5:(m:Int)<=255:=by have:=(Zf.1 hsh);omega
      have q1:IntKind.i64.wrap (1+(m:Int))=((1+m:Nat):Int):=by rw[Z6 _ (by omega) (by omega)];omega
      have q2:IntKind.i64.wrap ((a:Int)+((1+m:Nat):Int))=((a+(1+m):Nat):Int):=by rw[Z6 _ (by omega) (by omega)];omega
      clear hJ3 hk3 hbx3 hS3 hK2 hK3 hrow2;clear h2
      gi_wp2
      obtain⟨_,_,_,hf,hf0,hal,hpl,hR⟩:=HI.out;obtain⟨f,rfl⟩:∃f',f=f'+1:=⟨f-1,by omega⟩;rw[HST.out,if_neg (by omega),if_neg HH2.out.2]at hR;have hle:a+1+m<=ws.length:=by omega
      refine⟨⟨a+(1+m),t',f,pre++[ob],by simp,Zhg ⟨HJ3.out,HS3.out.2,HS3.out.1,by omega,by omega,by omega,by simp;omega,?_⟩⟩,by grind [intOf]⟩
      grind
  ·have hnlt:((a:Int)<ws.length)=False:=ZkH (by omega)
   have HE:Hid (endS ws shs old K pre wr):=Zhg (by
    obtain⟨_,hK,_,hf,hf0,_,_,hR⟩:=HI.out;refine⟨t,hK,?_⟩;cases f with
    |zero=>omega
    |succ f=>
     simp_all[Xe,Zi1])
   obtain⟨sa,sc,rfl⟩:∃sa sc,sv=.slice sa ws.length sc:=by
    grind
   clear hsv
   gi_wp2
   go_end0
   exact .inl ⟨_,pre,rfl,HE.out,HI.out.1⟩
end Vm
namespace Vm
open Go Go.Proofs Go.RowKit Go.Shelf
def Z4Q(w:World)(sv gv:Value)(hs:∃a n c,sv=.slice a n c)(hg:gv=.nilFunc\/∃f vs,gv=.func (.func f) #[] vs):
  Calls Sol.prog 131 #[sv,gv] w λe w'=>e=.returned (.func (.func 132) #[] #[.pointer (some ⟨w.heap.size,0,none⟩),.pointer (some ⟨w.heap.size+1,0,none⟩)])/\
   w'=(w.alloc (.cells #[sv] 35)).alloc (.cells #[gv] 190):=by
 have hmf:∀(fn:Go.Fn) (first cap:Array Value) (w:World),(Instr.makeFunc fn first cap).run Sol.prog w=.ok (.func fn first cap) w:=λ_ _ _ _=>rfl;obtain⟨a,n,c,rfl⟩:=hs;rcases hg with rfl|⟨f,vs,rfl⟩
 ·go_enter Sol.func131,Try.ntmps131;go_wp2;exact ZiJ (results_tmp rfl _ _ _) rfl ⟨rfl,rfl⟩
 ·go_enter Sol.func131,Try.ntmps131;go_wp2;exact ZiJ (results_tmp rfl _ _ _) rfl ⟨rfl,rfl⟩
def ZcO(w:World):Sem.run Sol.prog (binOp .neq 20 .nilIface .nilIface) w=.ok (.bool false) w:=by rfl
def ZcP(w:World)(T:TypeId)(v:Value):Sem.run Sol.prog (binOp .neq 20 (.iface T v) .nilIface) w=.ok (.bool true) w:=by rfl
def ZfK(w:World)(x:Int):Sem.run Sol.prog (Instr.typeAssert (.iface 189 (.agg #[.int .i64 x])) 20 189 true) w=.ok (.tuple #[.agg #[.int .i64 x],.bool true]) w:=by rfl
def Z3g(n:Nat)(p q:Addr)(w:World):
  CallsDIn Fence.wide n Sol.prog 130 #[.pointer (some p),.pointer (some q)] .returning w λe u' w'=>e=.returned (.tuple #[])/\u'=.returning/\w'=w:=by
 have h1:=ZcO;refine callsDIn_of_wpSIn Sol.func130 rfl trivial λc₀ cs hu=> ?_;simp only[Try.ntmps130,Zie,ZhL,Ziy,Nat.reduceAdd,Nat.reduceSub,Zjc,Zjd,Zjw,Zjj,ZhM,ZhX];apply wpSIn_seq;apply wpSIn_region;simp[wpOpsSIn,go_sem,recoverD,hu,Exit.thenS];refine wpSIn_of_wpIn rfl ?_
 gi_wp2
 cases c₀;simp_all [bodyPostS,results,Try.results130]
def QV(n:Nat)(bp bq:Nat)(x:Int)(w:World)(vp vq:Value)(hp:Boxed w bp 55 vp)(hq:Boxed w bq 32 vq)(hne:bp≠bq):
  CallsDIn Fence.wide n Sol.prog 130 #[.pointer (some ⟨bp,0,none⟩),.pointer (some ⟨bq,0,none⟩)] (.panicking (XE x)) w λe u' w'=>
   e=.returned (.tuple #[])/\u'=.panicking [{v:=.iface 189 (.agg #[.int .i64 x]),recovered:=true}]/\
   Boxed w' bp 55 (.slice none 0 0)/\Boxed w' bq 32 (.int .i64 x)/\(w.heap.size<=w'.heap.size/\∀k,k<w.heap.size->k≠bp->k≠bq->w'.heap[k]?=w.heap[k]?)/\w'.os=w.os/\w'.tape=w.tape/\w'.output=w.output:=by
 have h1:=ZcP;have h2:=ZfK;have p1:=(hp.alloc (.cells #[.int .i64 x] 189)).cell;have p2:=(hp.alloc (.cells #[.int .i64 x] 189)).frozen;have q1:=(hq.alloc (.cells #[.int .i64 x] 189)).cell;have q2:=(hq.alloc (.cells #[.int .i64 x] 189)).frozen;have p3:=hp.cell;have p4:=hp.frozen;have q3:=hq.cell;have q4:=hq.frozen;have l1:=hp.lt;have l2:=hq.lt;have n1:¬bp=bq:=hne;have n2:¬bq=bp:=λe=>hne e.symm;have n3:¬bp=w.heap.size:=by omega
 have n4:¬w.heap.size=bp:=by omega
 have n5:¬bq=w.heap.size:=by omega
 have n6:¬w.heap.size=bq:=by omega
 have HP:=Zhg (And.intro hp hq);clear hp hq hne;refine callsDIn_of_wpSIn Sol.func130 rfl trivial λc₀ cs hu=> ?_;simp only[Try.ntmps130,Zie,ZhL,Ziy,Nat.reduceAdd,Nat.reduceSub,Zjc,Zjd,Zjw,Zjj,ZhM,ZhX];apply wpSIn_seq;apply wpSIn_region;simp[wpOpsSIn,go_sem,recoverD,hu,XE,Exit.thenS];refine wpSIn_of_wpIn rfl ?_
 gi_wp2
 gi_region
 all_goals gi_wp2
 obtain⟨hp,hq⟩:=HP.out;have b1:Boxed ((w.setCell ⟨bp,0,none⟩ (.slice none 0 0)).setCell ⟨bq,0,none⟩ (.int .i64 x)) bp 55 (.slice none 0 0):=(Zhs _ ⟨bq,0,none⟩ _ bp n1).trans (hp.set _);have b2:Boxed ((w.setCell ⟨bp,0,none⟩ (.slice none 0 0)).setCell ⟨bq,0,none⟩ (.int .i64 x)) bq 32 (.int .i64 x):=Boxed.set _ (show Boxed (w.setCell ⟨bp,0,none⟩ (.slice none 0 0)) bq 32 vq from(Zhs _ ⟨bp,0,none⟩ _ bq n2).trans hq);refine⟨rfl,_,rfl,_,by simp[results,Try.results130],rfl,rfl,b1.alloc _,b2.alloc _,⟨?_,λk hk k1 k2=> ?_⟩,rfl,rfl,rfl⟩
 ·simp
 ·show(World.alloc _ _).heap[k]?=_
  grind [Below.heap_alloc,World.setCell,Below.heap_setCell]
end Vm
namespace Vm
open Go Go.Proofs Go.RowKit Go.Shelf
def obC(ob:Ob):List Value:=[.int .i64 ob.at_,.int .i64 ob.size,.int .i64 ob.ptrs,.bool ob.gone,.int .u64 ob.target]
def obsC(l:List Ob):List Value:=l.flatMap obC
def Z63(l:List Ob)(x:Ob):obsC (l++[x])=obsC l++obC x:=by simp[obsC]
structure WIv (w:World) (bt:Option Nat) (pre:List Ob) (W:World):Prop where
 row:∃v,Boxed W w.heap.size 55 v/\W.ownsRow (w.heap.size+4) 59 5 v pre.length (obsC pre)
 e:Boxed W (w.heap.size+1) 32 (.int .i64 0)
 gr:w.grownBy W bt
 size:w.heap.size+4<=W.heap.size
def Xt{w X Y:World}{bt row:Option Nat}(h:w.grownBy X bt)(k:X.grownBy Y row)(hr:∀r,row=some r->some r=bt\/w.heap.size<=r):w.grownBy Y bt:=
 ⟨k.os.trans h.os,k.tape.trans h.tape,k.output.trans h.output,Zhc h.size k.size,λi hi hn=>
  (k.block i (ZgV hi h.size) (λe=>by grind)).trans (h.block i hi hn)⟩
theorem zP{W:World}{b:Nat}{t:TypeId}{v:Value}(h:Boxed W b t v):rowB W b=v.ownBlock:=by
 unfold rowB;rw[h.cell];rfl
def WIv.rowIn{w:World}{bt:Option Nat}{pre:List Ob}{W:World}(h:WIv w bt pre W):Zbi w.heap.size W:=by
 obtain⟨v,hv,hr⟩:=h.row;intro k hk;rw[zP hv]at hk;exact(hr.lt k hk).2
def WIv.own{w:World}{bt:Option Nat}(hbt:∀r,bt=some r->r<w.heap.size):OwnP bt (w.heap.size+4) (WIv w bt):=by
 intro s X Y row h hg hr
 have hne:∀k,w.heap.size<=k->k<w.heap.size+4->some k≠row:=by
  intro k h1 h2 e;rcases hr k e.symm with e2|⟨e2,_⟩
  ·grind
  ·omega
 obtain⟨v,hv,hrow⟩:=h.row;refine⟨⟨v,hv.kept hg (hne _ (ZgP _) (by omega)),hrow.kept hg ?_⟩,h.e.kept hg (hne _ (by omega) (by omega)),Xt h.gr hg λr e=>(hr r e).imp id λh2=>by omega,Zhc h.size hg.size⟩;cases hb:v.ownBlock with
 |none=>simp
 |some b=>
  refine .inr λe=> ?_;have h1:=hrow.lt b hb;rcases hr b e.symm with e2|⟨_,o,ho,hc⟩
  ·grind
  ·rcases hrow.2 with ⟨rfl,_⟩|⟨g,cap,cur,rfl,_,hgb,_⟩
   ·simp[Value.ownBlock]at hb
   ·obtain rfl:g=b:=by grind [Value.ownBlock]
    rw[hgb]at ho;cases ho;cases hc
def WIv.appended{w W w1:World}{bt:Option Nat}{pre:List Ob}{x:Ob}{v v':Value}{tmp:Obj}(hbt:∀r,bt=some r->r<w.heap.size)(h:WIv w bt pre W)(hv:Boxed W w.heap.size 55 v)
  (hrow:W.ownsRow (w.heap.size+4) 59 5 v pre.length (obsC pre)) (hown':w1.ownsRow (w.heap.size+4) 59 5 v' (pre.length+1) (obsC pre++obC x))
  (hgrow:(W.alloc tmp).grownBy w1 v.ownBlock) (hat:v'.ownBlock=v.ownBlock\/v'.ownBlock=some (W.alloc tmp).heap.size):
  Boxed w1 w.heap.size 55 v/\KeepsFrom (w.heap.size+4) W (w1.setCell ⟨w.heap.size,0,none⟩ v')/\KpW w.heap.size (w.heap.size+4) W (w1.setCell ⟨w.heap.size,0,none⟩ v')/\WIv w bt (pre++[x]) (w1.setCell ⟨w.heap.size,0,none⟩ v'):=by
 have hsz:=h.size;obtain⟨hv1,hv2,hr2,hk2,hb2⟩:=hv.appended (by decide) (j0 hrow (B':=w.heap.size) (by omega)) (by omega) (ZgP _) (j0 hown' (B':=w.heap.size) (by omega)) hgrow;have hlow:∀b,v.ownBlock=some b->w.heap.size+4<=b:=λb hb=>(hrow.lt b hb).1
 have hrow2:(w1.setCell ⟨w.heap.size,0,none⟩ v').ownsRow (w.heap.size+4) 59 5 v' (pre.length+1) (obsC pre++obC x):=hown'.kept (ZjD w1 w.heap.size v') (by
  cases hb:v'.ownBlock with
  |none=>simp
  |some b=>exact .inr λe=>by have h1:=(hown'.lt b hb).1;grind)
 refine⟨hv1,hk2.from _,⟨hk2.size,λk o hk hc hn hr=> ?_,λk hk e=> ?_⟩,⟨v',hv2,?_⟩,?_,?_,Zhc hsz hk2.size⟩
 ·rw[Zhs _ _ _ _ hn,hgrow.block k (by have:=ZH hk;simp;omega) (λe=> ?_),ZhQ _ _ _ (ZH hk),hk]
  grind [zP,trans]
 ·rw[zP hv2]at e;rw[zP hv];rcases hat with hat|hat
  ·simp_all
  ·rw[hat]at e;simp at e;omega
 ·simp_all[ZhZ,Z63]
 ·have he1:Boxed w1 (w.heap.size+1) 32 (.int .i64 0):=(h.e.alloc tmp).kept hgrow (λe=>by grind);exact(Zhs _ _ _ _ (by simp)).trans he1
 ·refine Xt (Xt (Xt h.gr (Zi5 W tmp none) (by simp)) hgrow λr e=>.inr ?_) (ZjD w1 w.heap.size v') λr e=>.inr ?_
  ·grind
  simp_all
def KpW.alloc{bl base:Nat}{W:World}(o:Obj)(hbl:bl<W.heap.size):KpW bl base W (W.alloc o):=by
 refine⟨by simp,λk o2 hk _ _ _=>(ZhQ _ _ _ (ZH hk)).trans hk,λk _ hr=> ?_⟩;simp_all[rowB,Ziq]
end Vm
namespace Vm
open Go Go.Proofs Go.RowKit Go.Shelf
attribute [local go_sem] Oper.semAt_some
def Zf7:(Sol.prog.info? 59).map (λi=>(i.zero,i.size,i.bytes))=some (some (.agg #[.int .i64 0,.int .i64 0,.int .i64 0,.bool false,.int .u64 0]),5,40):=by kernel_rfl
def unO:Sol.prog.underlying 55=some (.slice 59):=by kernel_rfl
def Z3h(w:World)(a b c d e:Value)(t:TypeId):∀j u,[a,b,c,d,e][j]?=some u->(w.alloc (.cells #[a,b,c,d,e] t)).cell? ((⟨w.heap.size,0,none⟩:Addr).add j)=some u:=by
 intro j u h;have:=Zh3 _ _ j _ _ _ (Zhv w (.cells #[a,b,c,d,e] t))
 grind [add,Addr.add]
def Z4t(w:World)(ws:List Int)(shs:List (Int×Int))(old:Bool)(bt:Option Nat)(K:Nat->World->Prop)(e:Ending)(W:World):Prop:=
 ∃v n xs,e=.returned (.tuple #[v,.int .i64 n])/\w.grownBy W bt/\W.ownsRow (w.heap.size+4) 59 5 v xs.length (obsC xs)/\((n=0/\endS ws shs old K xs W)\/((n=2\/n=3)/\xs=[]/\Zw ws shs old=([],n)))
def jH{w:World}{ws:List Int}{g o cap:Nat}{bt:Option Nat}{sv gv:Value}{shs:List (Int×Int)}{old:Bool}{K:Nat->World->Prop}(hw:Words w ws g o cap)
  (hsv:sv=.slice (some ⟨g,o,none⟩) ws.length cap\/(ws=[]/\∃a c,sv=.slice a 0 c)) (hg:(ws≠[]->g<w.heap.size)/\g<w.heap.size+4/\g≠w.heap.size) (hgv:gv=.nilFunc\/∃f vs,gv=.func (.func f) #[] vs)
  (hbt:∀r,bt=some r->r<w.heap.size) (hgt:some g≠bt) (hbeg:Z79 ws g o cap gv shs old bt K) (hK0:K 0 w)
  (hKG:∀t A B row,K t A->A.grownBy B row->(∀r,row=some r->w.heap.size<=r)->K t B)
  (hKK:∀bl base t A B,w.heap.size<=bl->w.heap.size<=base->K t A->KpW bl base A B->K t B):
  Calls Sol.prog 128 #[sv,gv] w (Z4t w ws shs old bt K):=by
 refine(Zk0 (n:=5)).1 ?_;have hmf:∀(fn:Go.Fn) (first cap:Array Value) (w:World),(Instr.makeFunc fn first cap).run Sol.prog w=.ok (.func fn first cap) w:=λ_ _ _ _=>rfl
 have hsf:∃a n c,sv=.slice a n c:=by
  rcases hsv with rfl|⟨_,a,c,rfl⟩
  ·simp
  ·simp
 refine callsIn_of_wp_marks Sol.func128 rfl trivial ?_ rfl;simp only[Try.ntmps128,Zie,ZhL,Ziy,Nat.reduceAdd,Nat.reduceSub,Zjc,Zjd,Zjw,Zjj,ZhM,ZhX];have he:=λW=>Z4Q W sv gv hsf hgv
 gi_wp2
 refine⟨trivial,(Zk0.2 (he _)).mono ?_⟩;rintro e w1 ⟨rfl,rfl⟩
 gi_wp2
 have hnx:∀b:Nat,b<w.heap.size->((((w.alloc (Obj.cells #[.slice none 0 0] 55)).alloc (.cells #[.int .i64 0] 32)).alloc (.cells #[sv] 35)).alloc (.cells #[gv] 190)).heap[b]?=w.heap[b]? :=λb hb=>by
  grind [Below.heap_alloc]
 have b0:Boxed ((((w.alloc (Obj.cells #[.slice none 0 0] 55)).alloc (.cells #[.int .i64 0] 32)).alloc (.cells #[sv] 35)).alloc (.cells #[gv] 190)) w.heap.size 55 (.slice none 0 0):=(((Boxed.new w _ _).alloc _).alloc _).alloc _
 have b1:Boxed ((((w.alloc (Obj.cells #[.slice none 0 0] 55)).alloc (.cells #[.int .i64 0] 32)).alloc (.cells #[sv] 35)).alloc (.cells #[gv] 190)) (w.heap.size+1) 32 (.int .i64 0):=by
  have:=((Boxed.new (w.alloc (Obj.cells #[.slice none 0 0] 55)) 32 (.int .i64 0)).alloc (.cells #[sv] 35)).alloc (.cells #[gv] 190);rwa[World.size_alloc]at this
 have b2:Boxed ((((w.alloc (Obj.cells #[.slice none 0 0] 55)).alloc (.cells #[.int .i64 0] 32)).alloc (.cells #[sv] 35)).alloc (.cells #[gv] 190)) (w.heap.size+2) 35 sv:=by
  have:=(Boxed.new ((w.alloc (Obj.cells #[.slice none 0 0] 55)).alloc (.cells #[.int .i64 0] 32)) 35 sv).alloc (.cells #[gv] 190);simp_all
 have b3:Boxed ((((w.alloc (Obj.cells #[.slice none 0 0] 55)).alloc (.cells #[.int .i64 0] 32)).alloc (.cells #[sv] 35)).alloc (.cells #[gv] 190)) (w.heap.size+3) 190 gv:=by
  have:=Boxed.new (((w.alloc (Obj.cells #[.slice none 0 0] 55)).alloc (.cells #[.int .i64 0] 32)).alloc (.cells #[sv] 35)) 190 gv;simp_all
 have hgr:w.grownBy ((((w.alloc (Obj.cells #[.slice none 0 0] 55)).alloc (.cells #[.int .i64 0] 32)).alloc (.cells #[sv] 35)).alloc (.cells #[gv] 190)) bt:=⟨rfl,rfl,rfl,by simp;omega,λk hk _=>hnx k hk⟩;have hsz:((((w.alloc (Obj.cells #[.slice none 0 0] 55)).alloc (.cells #[.int .i64 0] 32)).alloc (.cells #[sv] 35)).alloc (.cells #[gv] 190)).heap.size=w.heap.size+4:=by simp
 generalize hW0:(((w.alloc (Obj.cells #[.slice none 0 0] 55)).alloc (.cells #[.int .i64 0] 32)).alloc (.cells #[sv] 35)).alloc (.cells #[gv] 190)=W0 at*
 have hst:Stat6 ws g o cap sv (w.heap.size+2) (w.heap.size+3) (w.heap.size+4) w.heap.size bt gv W0:=by
  refine⟨⟨λi x hx=> ?_,hw.le,hw.cap,hw.len,hw.u64⟩,hsv,b2,b3,λhn=> ?_,⟨by omega,by omega,by omega,by omega⟩,⟨by omega,by omega,by omega⟩,hgt,?_,?_⟩
  ·rw[<-hw.at_ i x hx]
   grind [World.cell?_of_block]
  ·obtain⟨x,hx⟩:∃x,ws[0]?=some x:=by cases ws with|nil=>simp_all|cons x l=>simp
   have:=hw.at_ 0 x hx;rw[hnx g (hg.1 hn)];unfold World.cell? at this;cases hh:w.heap[g]? with
   |none=>simp_all
   |some ob=>
    refine⟨ob,rfl,?_⟩
    grind [Obj.isCells]
  ·grind
  ·grind
 have hK0':K 0 W0:=hKG 0 w W0 none hK0 ⟨hgr.os,hgr.tape,hgr.output,hgr.size,λk hk _=>hnx k hk⟩ (by simp);have hseq:=Z4P 4 hst (by omega) (λe=>by grind) hbeg hK0' (λt A B hA hB=>hKG t A B none hA ⟨hB.os,hB.tape,hB.output,hB.size,λk hk _=>hB.block k hk⟩ (by simp)) (λt A B hA hB=>hKK _ _ t A B (ZgP _) (by omega) hA hB)
 refine Q5 rfl (by omega) (gf:=132) (lb:=#[.pointer (some ⟨w.heap.size+2,0,none⟩),.pointer (some ⟨w.heap.size+3,0,none⟩)]) rfl trivial (enters_of Sol.func132 (by kernel_rfl) rfl)
  hseq (λr e=>by grind) KpW.trans (λW l o o' h1 h2 h3 _=>KpW.put o' h2 h3 (by omega)) (ZhA _ _) (λ_=>rfl)
  (WIv w bt) (hsz▸WIv.own hbt) (λpre W h=>h.rowIn) ⟨⟨_,b0,Ziv _ _ _ _⟩,b1,hgr,by omega⟩ ?hS
  (λx a' W=>∃Bx,w.heap.size+4<=Bx/\W.heap[Bx]?=some (.cells #[.int .i64 x.at_,.int .i64 x.size,.int .i64 x.ptrs,.bool x.gone,.int .u64 x.target] 59 (0,0))/\
   a'= {tmps:=#[sv,gv,undef,undef,.pointer (some ⟨w.heap.size,0,none⟩),.pointer (some ⟨w.heap.size+1,0,none⟩),.pointer (some ⟨Bx,0,none⟩),
    .func (.func 130) #[] #[.pointer (some ⟨w.heap.size,0,none⟩),.pointer (some ⟨w.heap.size+1,0,none⟩)],sv,gv,.func (.func 132) #[] #[.pointer (some ⟨w.heap.size+2,0,none⟩),.pointer (some ⟨w.heap.size+3,0,none⟩)],obA x,undef,undef,undef,undef,undef],defers:=[]})
  ?hAx ?assign ?body ?done ?panic
 case hS=>
  rintro xs X Y row ⟨t,hK,hR⟩ hgr2 hrow;exact⟨t,hKG t X Y row hK hgr2 λr e=>(hrow r e).elim (λe2=>by cases e2) (λe2=>by omega),hR⟩
 case hAx=>
  rintro x a' s X Y row ⟨Bx,hB,hx,ha⟩ hgr2 hrow;refine⟨Bx,hB,(hgr2.block Bx (ZH hx) λe=> ?_).trans hx,ha⟩;rcases hrow Bx e.symm with e2|⟨_,o2,h2,h3⟩
  ·cases e2
  ·rw[hx]at h2;cases h2;cases h3
 case assign=>
  rintro l pre x W K2 hi hK2;simp only[List.zip_cons_cons,Array.zip,obA]
  gi_wp2
  exact hK2 _ _ ((KeepsOthers.alloc W _).from _) (KpW.alloc _ (by have:=hi.size;omega)) ((WIv.own hbt).alloc _ hi) ⟨W.heap.size,hi.size,Zhv W _,rfl⟩
 case body=>
  rintro l pre x a' W hi ⟨Bx,hBx,hx,rfl⟩ hlen;obtain⟨v,hv,hrow⟩:=hi.row;obtain⟨i0,hin,hz0,hz1,hz2⟩:=info_parts Zf7;obtain⟨va,vc,rfl⟩:=Z2l hrow;have c1:=hv.cell;have c2:=hv.frozen;have d0:W.cell? ⟨Bx,0,none⟩=some (.int .i64 x.at_):=by rw[Zh3 _ _ _ _ _ _ hx];rfl
  have d1:W.cell? ⟨Bx,1,none⟩=some (.int .i64 x.size):=by rw[Zh3 _ _ _ _ _ _ hx];rfl
  have d2:W.cell? ⟨Bx,2,none⟩=some (.int .i64 x.ptrs):=by rw[Zh3 _ _ _ _ _ _ hx];rfl
  have d3:W.cell? ⟨Bx,3,none⟩=some (.bool x.gone):=by rw[Zh3 _ _ _ _ _ _ hx];rfl
  have d4:W.cell? ⟨Bx,4,none⟩=some (.int .u64 x.target):=by rw[Zh3 _ _ _ _ _ _ hx];rfl
  have hpl:pre.length<=1000000:=Zhc (Nat.le_of_lt hlen) hw.len;have hszW:=hi.size;have HA:=λtmp w1 v'=>WIv.appended (W:=W) (w1:=w1) (x:=x) (v':=v') (tmp:=tmp) hbt hi hv hrow
  gi_wp2_with (gi_at_builtin;refine wpListIn_append_own_at _ rfl _ _ 55 rfl (w.heap.size+4) 59 i0 _ 5 40 unO hin hz0 hz1 hz2 rfl (by decide) _ _ _ rfl (hrow.alloc _) ⟨W.heap.size,0,none⟩ 1 1 (obC x) rfl rfl (Z3h _ _ _ _ _ _ _) (by simp[obC,Value.oneCell']) (by grind [maxLen]) (by omega) (by simp;omega) ?_;intro v' w1 hown' hgrow _ hat;obtain⟨g',cap',rfl⟩:=ownsRow_succ hown';obtain⟨e1,e2,e3,e4⟩:=HA _ _ _ hown' hgrow hat;have e5:=e1.cell;have e6:=e1.frozen)
  rw[hsz];exact⟨e2,e3,e4⟩
 case done=>
  rintro D xs W hD hS hi hD2;obtain⟨v,hv,hrow⟩:=hi.row;obtain⟨va,vc,rfl⟩:=Z2l hrow;have c1:=hv.cell;have c2:=hv.frozen;have c3:=hi.e.cell;have c4:=hi.e.frozen;rw[hsz]at hD
  gi_wp2
  have hDX:((W.setCell ⟨w.heap.size,0,none⟩ (.slice va xs.length vc)).setCell ⟨w.heap.size+1,0,none⟩ (.int .i64 0)).heap[D]?=some (.deferred (some [])):=by
   rw[Zhs _ _ _ _ (by grind),Zhs _ _ _ _ (by grind)];exact hD2
  have f0:Boxed ((W.setCell ⟨w.heap.size,0,none⟩ (.slice va xs.length vc)).setCell ⟨w.heap.size+1,0,none⟩ (.int .i64 0)) w.heap.size 55 (.slice va xs.length vc):=
   (Zhs _ _ _ _ (by simp)).trans (hv.set _)
  have f1:Boxed ((W.setCell ⟨w.heap.size,0,none⟩ (.slice va xs.length vc)).setCell ⟨w.heap.size+1,0,none⟩ (.int .i64 0)) (w.heap.size+1) 32 (.int .i64 0):=
   Boxed.set _ (show Boxed (W.setCell ⟨w.heap.size,0,none⟩ (.slice va xs.length vc)) (w.heap.size+1) 32 (.int .i64 0)from(Zhs _ _ _ _ (by simp)).trans hi.e)
  have g1:=ZjD W w.heap.size (.slice va xs.length vc);have g2:=ZjD (W.setCell ⟨w.heap.size,0,none⟩ (.slice va xs.length vc)) (w.heap.size+1) (.int .i64 0);have hlow:=hrow.lt
  have r2:=(hrow.kept g1 (by
   cases hb:(Value.slice va xs.length vc).ownBlock with
   |none=>simp
   |some b=>exact .inr λe=>by have:=(hlow b hb).1;grind)).kept g2 (by
   cases hb:(Value.slice va xs.length vc).ownBlock with
   |none=>simp
   |some b=>exact .inr λe=>by have:=(hlow b hb).1;grind)
  generalize hW2:(W.setCell ⟨w.heap.size,0,none⟩ (.slice va xs.length vc)).setCell ⟨w.heap.size+1,0,none⟩ (.int .i64 0)=W2 at*;have g3:=ZjN W2 D (.deferred none);have f0':Boxed (W2.putObj D (.deferred none)) w.heap.size 55 (.slice va xs.length vc):=(ZhS (by omega)).trans f0;have f1':Boxed (W2.putObj D (.deferred none)) (w.heap.size+1) 32 (.int .i64 0):=(ZhS (by omega)).trans f1;have k0:=f0'.cell;have k1:=f1'.cell;refine⟨by simp,.inl ⟨D,_,rfl,run_takeDeferred hDX,?_⟩⟩;refine⟨by simp,.inr ⟨λh=>(by cases h),.func 130,_,130, #[.pointer (some ⟨w.heap.size,0,none⟩),.pointer (some ⟨w.heap.size+1,0,none⟩)],rfl,by rfl,λ_ _=>trivial,?_⟩⟩;refine(Z3g _ _ _ _).mono ?_;rintro e u' w'' ⟨rfl,rfl,rfl⟩;refine⟨.tuple #[.slice va xs.length vc,.int .i64 0],by simp[results,Try.results128,go_sem,k0,k1],?_⟩;obtain⟨t,hK,hR⟩:=hS;refine⟨_,0,xs,rfl,Xt (Xt (Xt hi.gr g1 λr e=>.inr ?_) g2 λr e=>.inr ?_) g3 λr e=>.inr ?_,ownsRow_putObj r2 _ hDX rfl,.inl ⟨rfl,t,hKG t _ _ _ (hKG t _ _ _ (hKG t _ _ _ hK g1 λr e=> ?_) g2 λr e=> ?_) g3 λr e=> ?_,hR⟩⟩
  all_goals (grind)
 case panic=>
  rintro D chain pre W hD ⟨e,he2,rfl,hWk⟩ hi hD2;rw[hsz]at hD;obtain⟨v,hv,hrow⟩:=hi.row;have g3:=ZjN W D (.deferred none);have f0':Boxed (W.putObj D (.deferred none)) w.heap.size 55 v:=(ZhS (by omega)).trans hv;have f1':Boxed (W.putObj D (.deferred none)) (w.heap.size+1) 32 (.int .i64 0):=(ZhS (by omega)).trans hi.e;have hg4:w.grownBy (W.putObj D (.deferred none)) bt:=Xt hi.gr g3 λr e=>.inr (by grind);refine⟨by simp,.inl ⟨D,_,rfl,run_takeDeferred hD2,?_⟩⟩;refine⟨by simp,.inr ⟨λh=>(by cases h),.func 130,_,130, #[.pointer (some ⟨w.heap.size,0,none⟩),.pointer (some ⟨w.heap.size+1,0,none⟩)],rfl,by rfl,λ_ _=>trivial,?_⟩⟩;refine(QV _ w.heap.size (w.heap.size+1) e _ _ _ f0' f1' (by omega)).mono ?_;rintro e' u' w'' ⟨rfl,rfl,h0,h1,⟨hs2,hk⟩,hos,htape,hout⟩;have k0:=h0.cell;have k1:=h1.cell;refine⟨.tuple #[.slice none 0 0,.int .i64 e],by simp[results,Try.results128,go_sem,k0,k1],?_⟩;refine⟨_,e,[],rfl,⟨hos.trans hg4.os,htape.trans hg4.tape,hout.trans hg4.output,Zhc hg4.size hs2,λk hk2 hn=> ?_⟩,Ziv _ _ _ _,.inr ⟨he2,rfl,hWk⟩⟩;exact(hk k (ZgV hk2 hg4.size) (by omega) (by omega)).trans (hg4.block k hk2 hn)
end Vm
namespace Vm
open Go Go.Proofs Go.RowKit Go.Shelf
theorem Vn{w:World}{G:Nat->Prop}{k:IntKind}{n:Int}{v:Value}(r:Rd w G (.int k n) v):v=.int k n:=by cases r;rfl
theorem Z2r{w:World}{G:Nat->Prop}{b:Bool}{v:Value}(r:Rd w G (.bool b) v):v=.bool b:=by cases r;rfl
def Ke{w:World}{G:Nat->Prop}{ws:List Int}{v:Value}(r:Rd w G (.sl (ws.map vu)) v)(hG:∀b,G b->b<w.heap.size)(hl:ws.length<=1000000)(hu:∀x∈ws,U64 x)(q:Nat):
  ∃g o cap,Words w ws g o cap/\(v=.slice (some ⟨g,o,none⟩) ws.length cap\/(ws=[]/\∃a c,v=.slice a 0 c))/\((ws≠[]->g<w.heap.size)/\(g<w.heap.size\/g=q)):=by
 generalize hL:ws.map vu=L at r;cases r with
 |nil a cap hc=>
  have:ws=[]:=List.map_eq_nil_iff.1 hL;subst this;exact⟨q,0,0,⟨λi x hx=>by simp at hx,by simp,by grind [maxLen],by simp,by simp⟩,.inr ⟨rfl,a,cap,rfl⟩,λh=>absurd rfl h,.inr rfl⟩
 |sl _ b o cap k vs h1 h2 h3 h4 h5 h6=>
  subst hL;simp only[Zhu]at h1 h5⊢;refine⟨b,o,cap,⟨λi x hx=> ?_,h1,h2,hl,hu⟩,.inl rfl,λ_=>hG b h3,.inl (hG b h3)⟩;have hm:(ws.map vu)[i]?=some (vu x):=by rw[Zh2,hx];rfl
  have hk:k=1:=((h4 _ (ZgQ hm)).1).symm;subst hk;have hi:i<ws.length:=(ZgL.1 hx).1;rw[h5 i (by omega)];have:=h6 i (vu x) (by have:=X2 h4 hm 0 (by omega);simp_all);rw[Vn this]
def Z42{w:World}{G:Nat->Prop}{shs:List (Int×Int)}{v:Value}(r:Rd w G (.sl (shs.map shP)) v)(hG:∀b,G b->b<w.heap.size):
  (∃g o cap,v=.slice (some ⟨g,o,none⟩) shs.length cap/\shs.length<=cap/\cap<=maxLen/\g<w.heap.size/\∀(i:Nat) (x:Int×Int),shs[i]?=some x->w.cell? ⟨g,o+i*2,none⟩=some (.int .i64 x.1)/\w.cell? ⟨g,o+i*2+1,none⟩=some (.int .i64 x.2))\/
  (∃a cap,v=.slice a 0 cap/\shs=[]):=by
 generalize hL:shs.map shP=L at r;cases r with
 |nil a cap hc=>
  simp_all
 |sl _ b o cap k vs h1 h2 h3 h4 h5 h6=>
  subst hL;simp only[Zhu]at h1 h5⊢;refine .inl ⟨b,o,cap,rfl,h1,h2,hG b h3,λi x hx=> ?_⟩;have hm:(shs.map shP)[i]?=some (shP x):=by rw[Zh2,hx];rfl
  have hk:k=2:=((h4 _ (ZgQ hm)).1).symm;subst hk;have hi:i<shs.length:=(ZgL.1 hx).1;have e0:=h6 (i*2) (vi x.1) (by have:=X2 h4 hm 0 (by omega);simp_all);have e1:=h6 (i*2+1) (vi x.2) (by have:=X2 h4 hm 1 (by omega);simp_all)
  grind [Vn,Nat.add_assoc]
def qP{w:World}{G:Nat->Prop}:∀(l:List Ob) (i:Nat) (c:V),(flat (l.map obV))[i]?=some c->Rd w G c ((obsC l).getD i undef)
 | [],i,c,h=>by simp_all
 |x::l,i,c,h=>by
  rw[Zha,WL]at h;have e:obsC (x::l)=obC x++obsC l:=by simp[obsC]
  rw[e];by_cases hi:i<5
  ·match i,hi with
   |0,_=>simp[obV,V.cells]at h;subst h;exact .int _ _
   |1,_=>simp[obV,V.cells]at h;subst h;exact .int _ _
   |2,_=>simp[obV,V.cells]at h;subst h;exact .int _ _
   |3,_=>simp[obV,V.cells]at h;subst h;exact .bool _
   |4,_=>simp[obV,V.cells]at h;subst h;exact .int _ _
  ·have h2:(flat (l.map obV))[i-5]?=some c:=by
    rw[Zh6 (by simp_all)]at h;simpa[obV,V.cells]using h
   have:=qP (w:=w) (G:=G) l (i-5) c h2
   have hg:(obC x++obsC l).getD i undef=(obsC l).getD (i-5) undef:=by
    simp only[List.getD_eq_getElem?_getD];rw[Zh6 (by grind [obC])];simp[obC]
   simp_all
def Zan(l:List Ob):∀x∈l.map obV,V.fits 5 x:=by
 intro x hx;obtain⟨o,_,rfl⟩:=ZgX.1 hx;exact⟨rfl,λc hc=>by simp[obV,V.cells]at hc;rcases hc with rfl|rfl|rfl|rfl|rfl<;>rfl⟩
def Z9a{w:World}{G:Nat->Prop}{B:Nat}{e:TypeId}{v:Value}{l:List Ob}(h:w.ownsRow B e 5 v l.length (obsC l))(hG:∀c,B<=c->c<w.heap.size->G c):Rd w G (.sl (l.map obV)) v:=by
 have hlen:(obsC l).length=l.length*5:=h.1;rcases h.2 with ⟨rfl,h0⟩|⟨g,cap,cur,rfl,hb,hg,hnc,hcm,_⟩
 ·have:l=[]:=Zjo.1 h0;subst this;exact .nil _ _ (by grind [maxLen])
 ·have:=Rd.sl (w:=w) (G:=G) (l.map obV) g 0 cap 5 (λi=>(obsC l).getD i undef) (by simp_all) hcm (hG g hb (ZH hg)) (Zan l) (λi hi=>by
    have hi':i< (obsC l).length:=by rw[hlen];simpa using hi
    rw[Zhy,h.cellAt i (by omega)];simp[hi']) (λi c hc=>qP l i c hc)
  simp_all
def ZdS{ws:List Int}{shs:List (Int×Int)}{old:Bool}{K:Nat->World->Prop}{n:Int}{xs:List Ob}{W:World}(h0:shs=[])(h:(n=0/\endS ws shs old K xs W)\/((n=2\/n=3)/\xs=[]/\Zw ws shs old=([],n))):Zw ws shs old=(xs,n):=by
 subst h0;rcases h with ⟨rfl,t,_,h⟩|⟨_,rfl,h⟩
 ·simp_all
 ·exact h
def jQ:QA:=by
 intro ws hl hu;refine⟨by kernel_rfl,λw G vs hG hsz hvs=> ?_⟩;have r0:=hvs 0 _ rfl;obtain⟨⟨l⟩⟩:=vs
 ·simp at hsz
 rename_i v0 l;cases l with
 |cons _ _=>simp at hsz
 |nil=>
  simp at r0;obtain⟨g,o,cap,hw,hsv,hg1,hg2⟩:=Ke r0 hG hl hu (w.heap.size+1);have hk:=jH (w:=w) (shs:=[]) (old:=false) (bt:=none) (K:=λt _=>t=0) hw hsv ⟨hg1,by omega,by omega⟩ (.inl rfl) (by simp) (by simp) Z9G rfl (λt A B row h _ _=>h) (λbl base t A B _ _ h _=>h)
  obtain⟨sa,sn,sc,rfl⟩:∃a n c,v0=.slice a n c:=by
   rcases hsv with rfl|⟨_,a,c,rfl⟩
   ·simp
   ·simp
  have HK:=Zhg hk;clear hk hw hsv r0 hvs;go_enter Sol.func117,Try.ntmps117
  go_wp2_with (go_at_call 128;refine HK.out.mono ?_;rintro e w1 ⟨v,n,xs,rfl,hgr,hrow,hE⟩;have HR:=Zhg (And.intro hgr (And.intro hrow hE));clear hgr hrow hE)
  obtain⟨hgr,hrow,hE⟩:=HR.out;have hW:=ZdS rfl hE;refine ZiJ (v:=.tuple #[v,.int .i64 n]) (by simp[results,Try.results117,go_sem]) rfl ⟨_,rfl,(ZhA _ w).grown hgr (ZgP _) (λj e=>by cases e),?_⟩;rw[hW];refine .tup _ _ rfl ?_;intro i y hy
  match i,hy with
  |0,hy=>cases hy;exact Z9a hrow λc h1 h2=>.inr ⟨by omega,h2⟩
  |1,hy=>cases hy;exact .int _ _
def KpW.cell{bl base:Nat}{A B:World}(h:KpW bl base A B){k i:Nat}{c:Value}(hc:A.cell? ⟨k,i,none⟩=some c)(hk:k<base)(hn:k≠bl):B.cell? ⟨k,i,none⟩=some c:=by
 have hc2:=hc;unfold World.cell? at hc;cases hh:A.heap[k]? with
 |none=>simp_all
 |some ob=>
  have hob:ob.isCells=true:=by
   rw[hh]at hc;cases ob<;>simp_all [Obj.isCells]
  rw[<-hc2];exact ZhG (a:=⟨k,i,none⟩) ((h.same k ob hh hob hn (.inl hk)).trans hh.symm)
def KOld.grown{shs:List (Int×Int)}{bt bs t n:Nat}{v:Value}{A B:World}{row:Option Nat}(h:KOld shs bt bs v t A)(hg:A.grownBy B row)(hbt:bt<n)(hbs:bs<n)(hv:shs≠[]->∀g o cap,v=.slice (some ⟨g,o,none⟩) shs.length cap->g<n)(hr:∀r,row=some r->n<=r):KOld shs bt bs v t B:=by
 obtain⟨h1,h2,h3⟩:=h;exact⟨(hg.block _ (ZH h1) (λe=>by grind)).trans h1,h2.grown hg (λe=>by grind) (λhn g o cap e e2=>by grind),h3⟩
def KOld.kp{shs:List (Int×Int)}{bt bs t n bl base:Nat}{v:Value}{A B:World}(h:KOld shs bt bs v t A)(hg:KpW bl base A B)(hbt:bt<n)(hbs:bs<n)(hv:shs≠[]->∀g o cap,v=.slice (some ⟨g,o,none⟩) shs.length cap->g<n)(h1:n<=bl)(h2:n<=base):KOld shs bt bs v t B:=by
 obtain⟨k1,⟨k2,k3⟩,k4⟩:=h;refine⟨hg.same _ _ k1 rfl (by omega) (.inl (by omega)),⟨hg.same _ _ k2 rfl (by omega) (.inl (by omega)),?_⟩,k4⟩;rcases k3 with ⟨g,o,cap,rfl,a1,a2,a3,a4⟩|h
 ·refine .inl ⟨g,o,cap,rfl,a1,a2,ZgV a3 hg.size,λi x hx=> ?_⟩;have:=hv (λe=>by simp_all) _ _ _ rfl;exact⟨hg.cell (a4 i x hx).1 (by omega) (by omega),hg.cell (a4 i x hx).2 (by omega) (by omega)⟩
 simp_all
def Words.below2{w W:World}{ws:List Int}{g o cap:Nat}(h:Words w ws g o cap)(hs:ws≠[]->g<w.heap.size)(hb:Below w.heap.size w W):Words W ws g o cap:=
 ⟨λi x hx=>by rw[hb.cell (p:=⟨g,o+i,none⟩) (hs (λe=>by simp_all))];exact h.at_ i x hx,h.le,h.cap,h.len,h.u64⟩
def Sp:XP:=by
 intro ws shs hl hsl hu hsh;refine⟨by kernel_rfl,λw G vs hG hsz hvs=> ?_⟩;have r0:=hvs 0 _ rfl;have r1:=hvs 1 _ rfl;obtain⟨⟨l⟩⟩:=vs
 ·simp at hsz
 rename_i v0 l;cases l with
 |nil=>simp at hsz
 |cons v1 l=>
 cases l with
 |cons _ _=>simp at hsz
 |nil=>
  simp at r0 r1;obtain⟨g,o,cap,hw,hsv,hg1,hg2⟩:=Ke r0 hG hl hu (w.heap.size+3);have hv1:=Z42 r1 hG
  obtain⟨sa,sn,sc,rfl⟩:∃a n c,v0=.slice a n c:=by
   rcases hsv with rfl|⟨_,a,c,rfl⟩
   ·simp
   ·simp
  obtain⟨ta,tc,rfl⟩:∃a c,v1=.slice a shs.length c:=by
   grind
  have b0:((w.alloc (.cells #[.slice ta shs.length tc] 180)).alloc (.cells #[.int .i64 0] 3)).heap[w.heap.size]?=some (.cells #[.slice ta shs.length tc] 180 (0,0)):=(ZhQ _ _ _ (by simp)).trans (Zhv w _)
  have b1:((w.alloc (.cells #[.slice ta shs.length tc] 180)).alloc (.cells #[.int .i64 0] 3)).heap[w.heap.size+1]?=some (.cells #[.int .i64 0] 3 (0,0)):=by
   have:=Zhv (w.alloc (.cells #[.slice ta shs.length tc] 180)) (.cells #[.int .i64 0] 3);simp_all
  have hB1:Below w.heap.size w ((w.alloc (.cells #[.slice ta shs.length tc] 180)).alloc (.cells #[.int .i64 0] 3)):=((ZhA _ w).alloc (ZgP _) _).alloc (by simp) _;have hsz1:((w.alloc (.cells #[.slice ta shs.length tc] 180)).alloc (.cells #[.int .i64 0] 3)).heap.size=w.heap.size+2:=by simp
  have hgb:shs≠[]->∀g o cap,Value.slice ta shs.length tc=.slice (some ⟨g,o,none⟩) shs.length cap->g<w.heap.size:=by
   intro hn g o cap e;rcases hv1 with ⟨g1,o1,c1,e1,_,_,h4,_⟩|⟨_,_,_,h⟩
   ·simp_all
   ·simp_all
  have hk:Calls Sol.prog 128 #[.slice sa sn sc,.func (.func 129) #[] #[.pointer (some ⟨w.heap.size+1,0,none⟩),.pointer (some ⟨w.heap.size,0,none⟩)]] ((w.alloc (.cells #[.slice ta shs.length tc] 180)).alloc (.cells #[.int .i64 0] 3))
    (Z4t ((w.alloc (.cells #[.slice ta shs.length tc] 180)).alloc (.cells #[.int .i64 0] 3)) ws shs true (some (w.heap.size+1)) (KOld shs (w.heap.size+1) w.heap.size (.slice ta shs.length tc))):=by
   generalize hW1:(w.alloc (.cells #[.slice ta shs.length tc] 180)).alloc (.cells #[.int .i64 0] 3)=W1 at*;have hgb1:shs≠[]->∀g o cap,Value.slice ta shs.length tc=.slice (some ⟨g,o,none⟩) shs.length cap->g<W1.heap.size:=λhn g o cap e=>by grind
   refine jH (hw.below2 hg1 hB1) hsv ⟨λh=>by grind,by omega,by omega⟩ (.inr ⟨_,_,rfl⟩) (λr e=>by grind) (λe=>by grind) (Z9H hsl (by omega) (λhn g o cap e=>by grind)) ⟨b1,⟨b0,?_⟩,by omega⟩ (λt A B row h hg hr=>h.grown hg (n:=W1.heap.size) (by omega) (by omega) hgb1 hr) (λbl base t A B h1 h2 h hk=>h.kp hk (n:=W1.heap.size) (by omega) (by omega) hgb1 h1 h2);rcases hv1 with ⟨g1,o1,c1,e1,a1,a2,a3,a4⟩|⟨a,c,e1,h⟩
   ·exact .inl ⟨g1,o1,c1,e1,a1,a2,by omega,λi x hx=>⟨(hB1.cell (p:=⟨g1,o1+i*2,none⟩) a3).trans (a4 i x hx).1,(hB1.cell (p:=⟨g1,o1+i*2+1,none⟩) a3).trans (a4 i x hx).2⟩⟩
   ·simp_all
  have hrd:∀w1 v n (xs:List Ob),(v=.slice none 0 0/\xs=[]\/w1.ownsRow (w.heap.size+6) 59 5 v xs.length (obsC xs))->Zw ws shs true=(xs,n)->Rd w1 (λb=>true=false/\G b\/w.heap.size<=b/\b<w1.heap.size) (.tup [.sl ((Zw ws shs true).1.map obV),vi (Zw ws shs true).2]) (.tuple #[v,.int .i64 n]):=by
   intro w1 v n xs hrow hW;rw[hW];refine .tup _ _ rfl ?_;intro i y hy
   match i,hy with
   |0,hy=>
    cases hy;rcases hrow with ⟨rfl,rfl⟩|hrow
    ·exact .nil _ _ (by grind [maxLen])
    ·exact Z9a hrow λc h1 h2=>.inr ⟨by omega,h2⟩
   |1,hy=>cases hy;exact .int _ _
  have hk2:Calls Sol.prog 128 #[.slice sa sn sc,.func (.func 129) #[] #[.pointer (some ⟨w.heap.size+1,0,none⟩),.pointer (some ⟨w.heap.size,0,none⟩)]] ((w.alloc (.cells #[.slice ta shs.length tc] 180)).alloc (.cells #[.int .i64 0] 3)) λe w1=>
    (∃(v:Value) (t:Nat),e=.returned (.tuple #[v,.int .i64 0])/\w1.cell? ⟨w.heap.size+1,0,none⟩=some (.int .i64 t)/\w1.cell? ⟨w.heap.size,0,none⟩=some (.slice ta shs.length tc)/\(t:Int)<shs.length/\Hid (Below w.heap.size w w1/\Rd w1 (λb=>true=false/\G b\/w.heap.size<=b/\b<w1.heap.size) (.tup [.sl ((Zw ws shs true).1.map obV),vi (Zw ws shs true).2]) (.tuple #[.slice none 0 0,.int .i64 3])))\/
    (∃(v:Value) (t:Nat),e=.returned (.tuple #[v,.int .i64 0])/\w1.cell? ⟨w.heap.size+1,0,none⟩=some (.int .i64 t)/\w1.cell? ⟨w.heap.size,0,none⟩=some (.slice ta shs.length tc)/\¬(t:Int)<shs.length/\Hid (Below w.heap.size w w1/\Rd w1 (λb=>true=false/\G b\/w.heap.size<=b/\b<w1.heap.size) (.tup [.sl ((Zw ws shs true).1.map obV),vi (Zw ws shs true).2]) (.tuple #[v,.int .i64 0])))\/
    (∃(v:Value) (n:Int),e=.returned (.tuple #[v,.int .i64 n])/\¬n=0/\Hid (Below w.heap.size w w1/\Rd w1 (λb=>true=false/\G b\/w.heap.size<=b/\b<w1.heap.size) (.tup [.sl ((Zw ws shs true).1.map obV),vi (Zw ws shs true).2]) (.tuple #[.slice none 0 0,.int .i64 n]))):=by
   refine hk.mono ?_;rintro e w1 ⟨v,n,xs,rfl,hgr,hrow,hE⟩;rw[hsz1]at hrow;have hB:Below w.heap.size w w1:=hB1.trans ((ZhA _ _).grown hgr (by omega) (λj e=>by grind));rcases hE with ⟨rfl,t,⟨hb,hs,ht⟩,hWk⟩|⟨hn,rfl,hWk⟩
   ·have q1:w1.cell? ⟨w.heap.size+1,0,none⟩=some (.int .i64 t):=by rw[Zh3 _ _ _ _ _ _ hb];rfl
    have q2:w1.cell? ⟨w.heap.size,0,none⟩=some (.slice ta shs.length tc):=by rw[Zh3 _ _ _ _ _ _ hs.box];rfl
    by_cases hlt:t<shs.length
    ·rw[if_pos hlt]at hWk;exact .inl ⟨v,t,rfl,q1,q2,by omega,Zhg ⟨hB,hrd w1 _ _ [] (.inl ⟨rfl,rfl⟩) hWk⟩⟩
    ·rw[if_neg hlt]at hWk;exact .inr (.inl ⟨v,t,rfl,q1,q2,by omega,Zhg ⟨hB,hrd w1 _ _ xs (.inr hrow) hWk⟩⟩)
   ·exact .inr (.inr ⟨v,n,rfl,by omega,Zhg ⟨hB,hrd w1 _ _ [] (.inl ⟨rfl,rfl⟩) hWk⟩⟩)
  have HK:=Zhg hk2;clear hw hsv r0 r1 hvs hv1 hg1 hg2 hk hk2 hB1 b0 b1 hgb hsz1 hrd;go_enter Sol.func119,Try.ntmps119;have hmf:∀(fn:Go.Fn) (first cap:Array Value) (w:World),(Instr.makeFunc fn first cap).run Sol.prog w=.ok (.func fn first cap) w:=λ_ _ _ _=>rfl
  go_wp2_with (go_at_call 128;refine HK.out.mono ?_;rintro e w1 (⟨v,t,rfl,q1,q2,hlt,HF⟩|⟨v,t,rfl,q1,q2,hlt,HF⟩|⟨v,n,rfl,hn,HF⟩))
  ·refine ZiJ (v:=.tuple #[.slice none 0 0,.int .i64 3]) (by simp[results,Try.results119,go_sem]) rfl ⟨_,rfl,HF.out.1,HF.out.2⟩
  ·refine ZiJ (v:=.tuple #[v,.int .i64 0]) (by simp[results,Try.results119,go_sem]) rfl ⟨_,rfl,HF.out.1,HF.out.2⟩
  ·refine ZiJ (v:=.tuple #[.slice none 0 0,.int .i64 n]) (by simp[results,Try.results119,go_sem]) rfl ⟨_,rfl,HF.out.1,HF.out.2⟩
end Vm
namespace Vm
open Go Go.Proofs Go.RowKit
def Z64{w:World}{G:Nat->Prop}{l:List Ob}{v:Value}(r:Rd w G (.sl (l.map obV)) v)(hG:∀b,G b->b<w.heap.size):
  (∃g o cap,v=.slice (some ⟨g,o,none⟩) l.length cap/\l.length<=cap/\cap<=maxLen/\g<w.heap.size/\∀(i:Nat) (x:Ob),l[i]?=some x->w.cell? ⟨g,o+i*5,none⟩=some (.int .i64 x.at_)/\w.cell? ⟨g,o+i*5+1,none⟩=some (.int .i64 x.size)/\
   w.cell? ⟨g,o+i*5+2,none⟩=some (.int .i64 x.ptrs)/\w.cell? ⟨g,o+i*5+3,none⟩=some (.bool x.gone)/\w.cell? ⟨g,o+i*5+4,none⟩=some (.int .u64 x.target))\/
  (∃a cap,v=.slice a 0 cap/\l=[]):=by
 generalize hL:l.map obV=L at r;cases r with
 |nil a cap hc=>
  simp_all
 |sl _ b o cap k vs h1 h2 h3 h4 h5 h6=>
  subst hL;simp only[Zhu]at h1 h5⊢;refine .inl ⟨b,o,cap,rfl,h1,h2,hG b h3,λi x hx=> ?_⟩;have hm:(l.map obV)[i]?=some (obV x):=by rw[Zh2,hx];rfl
  have hk:k=5:=((h4 _ (ZgQ hm)).1).symm;subst hk;have hi:i<l.length:=(ZgL.1 hx).1;have e0:=h6 (i*5) (vi x.at_) (by have:=X2 h4 hm 0 (by omega);simp_all);have e1:=h6 (i*5+1) (vi x.size) (by have:=X2 h4 hm 1 (by omega);simp_all);have e2:=h6 (i*5+2) (vi x.ptrs) (by have:=X2 h4 hm 2 (by omega);simp_all);have e3:=h6 (i*5+3) (.bool x.gone) (by have:=X2 h4 hm 3 (by omega);simp_all);have e4:=h6 (i*5+4) (vu x.target) (by have:=X2 h4 hm 4 (by omega);simp_all)
  grind [Vn,Nat.add_assoc,Z2r]
end Vm
end
section

end
section
namespace Vm
open Go Go.Proofs
def ZeL{h:Hp}(hh:h.ok):VC Sol.prog 25 false [hpV h] (.bool (Yq h)):=by
 rw[<-(SQ h).1];exact Z4r jQ Sp hh
def ZeK{h:Hp}(hh:h.ok){k:Int}:VC Sol.prog 27 false [hpV h,vi k] (.tup [.sl ((Q0 h k).1.map obV),vi (Q0 h k).2]):=by
 rw[<-Z5J h k];exact jO jQ Sp hh
def ZeM{h:Hp}(hh:h.ok):VC Sol.prog 22 false [hpV h] (vi (Z4j h)):=by
 rw[<-Z5L h];exact jP jQ Sp hh
end Vm
end
section
namespace Vm
open Go
open Go.Proofs
def p17:Fn:=⟨5,[0,1,2,3,6],
pQ [pR [(1,pS 0 2),(2,.m [pN,pN]),pV 3 (pI 0)],pQ [pC [pK 5 19 [.mm 1 0 2]] [pV 4 (.un .not (.s 5))]] (.cond (.s 4) (pQ [.reg ⟨[],[([],.ag [pN,pN])],[(2,.m [pN,pN]),pV 3 (pI 1)]⟩] .ret) .skip),pC [.callm 6 [] (.id 47) [.fz,(.own 97)] [.mm 1 0 2,.c (.mp 0 [] [])]] [(2,pM (.sz (.ext (.s 6) 0) 2) 2),pV 3 (pI 0)]] .ret,[(2,(.ag 2)),(3,.v)]⟩
def c17:Zj Sol.prog fresh sig [.fz] [] Try.f17=some p17:=by kernel_rfl
def p18:Fn:=⟨12,[0,1,2,3,4,5,24,6,29,7,8,63],
pQ [pR [(2,pS 0 2),(3,pS 1 2),pV 4 pF],pC [pK 12 48 [.m 2 1,.m 3 1]] [pV 5 (.s 12)],pQ [.reg ⟨[.lt 13 [] (.un .not (.s 5))],[([(13,false)],.bin .neq (.len (.m 2 0)) (.len (.m 3 0)))],[pV 6 (.ite (.s 13) pT (.bin .neq (.len (.m 2 0)) (.len (.m 3 0))))]⟩] (.cond (.s 6) (pQ [pR [pV 4 pF]] .ret) .skip),pQ [pR [pV 7 (pI 0)]] (.block 0 (.loop [0,1,2,3,4,5,6,7] (pQ [pQ [pR [pV 8 (.bin .lss (.s 7) (.len (.m 2 0)))]] (.cond (.s 8) .skip (.exit 0)),.block 1 (pQ [pC [pK 14 48 [.fld (.idx (.m 2 0) (.s 7) 2) 0,.fld (.idx (.m 3 0) (.s 7) 2) 0]] [pV 9 (.s 14)],pC [pK 15 49 [.fld (.idx (.m 2 0) (.s 7) 2) 1,.fld (.idx (.m 3 0) (.s 7) 2) 1]] [pV 10 (.s 15)],.reg ⟨[.lt 16 [] (.un .not (.s 9))],[([(16,false)],.un .not (.s 10))],[pV 11 (.ite (.s 16) pT (.un .not (.s 10)))]⟩] (.cond (.s 11) (pQ [pR [pV 4 pF]] .ret) .skip))] (pR [pV 7 (.bin .add (.s 7) (pI 1))])))),pR [pV 4 pT]] .ret,[(4,.v)]⟩
def c18:Zj Sol.prog fresh sig [.fz,.fz] [] Try.f18=some p18:=by kernel_rfl
def p19:Fn:=⟨11,[0,1,2,9,3,14,13,15,5,12,32],
pQ [pR [(1,pS 0 2),pV 2 pF],pQ [pR [pV 3 (.bin .gtr (.len (.m 1 1)) (pI 16))]] (.cond (.s 3) (pQ [pR [pV 2 pF]] .ret) .skip),pR [(4,.no)],pQ [pR [(4,.no),pV 5 (pI 0),pV 6 (.len (.m 1 0)),pV 9 (.m 1 0)]] (.block 0 (.loop [0,1,2,3,4,5,6,9] (pQ [pR [(4,.no),pV 7 (.bin .lss (.s 5) (.s 6))],.cond (.s 7) .skip (.exit 0),.block 1 (pQ [pR [(4,.no),(8,pM (.flds (.idx (.s 9) (.s 5) 2) 0 2) 2)],.reg ⟨[.lt 11 [] (.bin .gtr (.bin .add (.len (.m 8 0)) (.len (.m 8 1))) (pI 255)),.callm 12 [(11,false)] (.id 50) [.fz,(.mem [.fz,.fz])] [.m 8 0,.ag [.m 1 0,.m 1 1]]],[([(11,false)],.un .not (.ext (.s 12) 0))],[(1,pM (.ext (.s 12) 1) 2),(4,.no),pV 10 (.ite (.s 11) pT (.un .not (.ext (.s 12) 0)))]⟩] (.cond (.s 10) (pQ [pR [pV 2 pF,(4,.no)]] .ret) .skip))] (pR [(4,.no),pV 5 (.bin .add (.s 5) (pI 1))])))),pC [.callm 13 [] (.id 50) [.fz,(.mem [.fz,.fz])] [.m 1 1,.ag [.m 1 0,.m 1 1]]] [(1,pM (.ext (.s 13) 1) 2),pV 2 (.ext (.s 13) 0),(4,.no)]] .ret,[(2,.v)]⟩
def c19:Zj Sol.prog fresh sig [.fz] [] Try.f19=some p19:=by kernel_rfl
def p47:Fn:=⟨11,[0,1,2,4,5,13,12,14,7,11,8],
pQ [pR [(2,pS 0 2),(3,.m [pN,pN])],pR [(4,.m [pN,pN])],pQ [pC [.callm 9 [] (.id 80) [.fz,(.own 97)] [.mm 2 0 2,.s 1]] [pV 1 (.ext (.s 9) 1),pV 5 (pI 0),pV 6 (.len (.ext (.s 9) 0)),pV 9 (.ext (.s 9) 0)]] (.block 0 (.loop [0,1,2,3,4,5,6,9] (pQ [pR [pV 7 (.bin .lss (.s 5) (.s 6))],.cond (.s 7) .skip (.exit 0),.block 1 (pQ [pR [pV 8 (.fld (.idx (.s 9) (.s 5) 1) 0)],pR [(10,pM (.flds (.idx (.m 2 0) (.s 8) 2) 0 2) 2)]] (pC [.call 11 [] (.id 81) true false [.m 10 0,.s 1]] [(4,.m [.app (.m 4 0) (.lit [.ag [.one (.s 11),.app pN (.m 10 1) 1]]) 2,.m 4 1])]))] (pR [pV 5 (.bin .add (.s 5) (pI 1))])))),pC [.call 12 [] (.id 81) true false [.m 2 1,.s 1]] [(4,.m [.m 4 0,.one (.s 12)])],pR [(3,pM (.mm 4 0 2) 2)]] .ret,[(3,(.ag 2))]⟩
def c47:Zj Sol.prog fresh sig [.fz,(.own 97)] [(1,(.own 97))] Try.f47=some p47:=by kernel_rfl
def p48:Fn:=⟨7,[0,1,4,10,5,14,25],
pQ [pR [pV 2 pF],pQ [pR [pV 3 (.bin .neq (.len (.s 0)) (.len (.s 1)))]] (.cond (.s 3) (pQ [pR [pV 2 pF]] .ret) .skip),pQ [pR [pV 4 (pI 0)]] (.block 0 (.loop [0,1,2,3,4] (pQ [pQ [pR [pV 5 (.bin .lss (.s 4) (.len (.s 0)))]] (.cond (.s 5) .skip (.exit 0)),.block 1 (pQ [pR [pV 6 (.bin .neq (.fld (.idx (.s 0) (.s 4) 1) 0) (.fld (.idx (.s 1) (.s 4) 1) 0))]] (.cond (.s 6) (pQ [pR [pV 2 pF]] .ret) .skip))] (pR [pV 4 (.bin .add (.s 4) (pI 1))])))),pR [pV 2 pT]] .ret,[(2,.v)]⟩
def c48:Zj Sol.prog fresh sig [.fz,.fz] [] Try.f48=some p48:=by kernel_rfl
def p50:Fn:=⟨9,[0,1,3,8,7,9,5,6,20],
pQ [pR [pV 2 pF],pQ [pR [pV 3 (pI 0),pV 4 (.len (.s 0)),pV 7 (.s 0)]] (.block 0 (.loop [0,1,2,3,4,7] (pQ [pR [pV 5 (.bin .lss (.s 3) (.s 4))],.cond (.s 5) .skip (.exit 0),.block 1 (pQ [pR [pV 6 (.fld (.idx (.s 7) (.s 3) 1) 0)],.reg ⟨[.lt 9 [] (.bin .lss (.s 6) (pI (-1)))],[([(9,false)],.bin .geq (.s 6) (.len (.m 1 0)))],[pV 8 (.ite (.s 9) pT (.bin .geq (.s 6) (.len (.m 1 0))))]⟩] (.cond (.s 8) (pQ [pR [pV 2 pF]] .ret) .skip))] (pR [pV 3 (.bin .add (.s 3) (pI 1))])))),pR [pV 2 pT]] .ret,[(2,.v)]⟩
def c50:Zj Sol.prog fresh sig [.fz,(.mem [.fz,.fz])] [(1,(.mem [.fz,.fz]))] Try.f50=some p50:=by kernel_rfl
def p80:Fn:=⟨9,[0,1,2,3,4,5,6,7,17],
pQ [pR [(1,.no),(2,pS 0 2),(3,.m [.s 1]),pV 4 pN],pR [(3,.m [.mclr (.m 3 0)])],pR [(5,.m [pN])],pR [(6,.no)],pC [.callm 9 [] (.id 102) [.fz,(.mem [(.own 97)]),(.mem [(.own 3)])] [.m 2 1,.ag [.m 3 0],.ag [.m 5 0]]] [(3,.m [.fld (.ext (.s 9) 1) 0]),(5,.m [.fld (.ext (.s 9) 2) 0]),(6,.no)],pQ [pR [(6,.no),pV 7 (pI 0)]] (.block 0 (.loop [0,2,3,4,5,6,7] (pQ [pQ [pR [(6,.no),pV 8 (.bin .lss (.s 7) (.len (.m 5 0)))]] (.cond (.s 8) .skip (.exit 0)),.block 1 (pC [.callm 10 [] (.id 102) [.fz,(.mem [(.own 97)]),(.mem [(.own 3)])] [.fld (.idx (.m 2 0) (.fld (.idx (.m 5 0) (.s 7) 1) 0) 2) 0,.ag [.m 3 0],.ag [.m 5 0]]] [(3,.m [.fld (.ext (.s 10) 1) 0]),(5,.m [.fld (.ext (.s 10) 2) 0]),(6,.no)])] (pR [(6,.no),pV 7 (.bin .add (.s 7) (pI 1))])))),pR [pV 4 (.m 5 0),(6,.no)]] .ret,[(4,.v)]⟩
def c80:Zj Sol.prog fresh sig [.fz,(.own 97)] [(3,(.mem [(.own 97)]))] Try.f80=some p80:=by kernel_rfl
def p81:Fn:=⟨10,[0,1,4,5,10,9,11,7,8,15],
pQ [pR [pV 2 pN],pR [pV 3 pN],pQ [pR [pV 4 (pI 0),pV 5 (.len (.s 0)),pV 8 (.s 0)]] (.block 0 (.loop [0,1,2,3,4,5,8] (pQ [pR [pV 6 (.bin .lss (.s 4) (.s 5))],.cond (.s 6) .skip (.exit 0),.block 1 (pQ [pR [pV 7 (.fld (.idx (.s 8) (.s 4) 1) 0)],pQ [pR [pV 9 (.bin .geq (.s 7) (pI 0))]] (.cond (.s 9) (pR [pV 7 (.lk (.i .i64) (.s 1) (.s 7) (.int .i64 0) false)]) .skip)] (pR [pV 3 (.app (.s 3) (.lit [.one (.s 7)]) 1)]))] (pR [pV 4 (.bin .add (.s 4) (pI 1))])))),pR [pV 2 (.s 3),(3,.no)]] .ret,[(2,.v)]⟩
def c81:Zj Sol.prog fresh sig [.fz,.fz] [(4,(.own 3))] Try.f81=some p81:=by kernel_rfl
def p102:Fn:=⟨11,[0,1,2,10,9,11,5,8,6,7,25],
pQ [pR [pV 3 (pI 0),pV 4 (.len (.s 0)),pV 7 (.s 0)]] (.block 0 (.loop [0,1,2,3,4,7] (pQ [pR [pV 5 (.bin .lss (.s 3) (.s 4))],.cond (.s 5) .skip (.exit 0),.block 1 (pQ [pR [pV 6 (.fld (.idx (.s 7) (.s 3) 1) 0)],pR [pV 8 (.fl (.ext (.lk (.i .i64) (.m 1 0) (.s 6) (.int .i64 0) true) 0)),pV 9 (.fl (.ext (.lk (.i .i64) (.m 1 0) (.s 6) (.int .i64 0) true) 1))],.reg ⟨[.lt 11 [] (.bin .geq (.s 6) (pI 0))],[([(11,true)],.un .not (.s 9))],[pV 10 (.ite (.s 11) (.un .not (.s 9)) pF)]⟩] (.cond (.s 10) (pQ [pR [(1,.m [.mput (.i .i64) (.m 1 0) (.s 6) (.len (.m 2 0))])]] (pR [(2,.m [.app (.m 2 0) (.lit [.one (.s 6)]) 1])])) .skip))] (pR [pV 3 (.bin .add (.s 3) (pI 1))])))),[]⟩
def c102:Zj Sol.prog fresh sig [.fz,(.mem [(.own 97)]),(.mem [(.own 3)])] [(1,(.mem [(.own 97)])),(2,(.mem [(.own 3)]))] Try.f102=some p102:=by kernel_rfl
end Vm
end
section
namespace Vm
open Go Go.Proofs
def Gr.sm(g:Gr):Prop:=g.nodes.length<=100000/\g.roots.length<=100000/\∀n∈g.nodes,n.ptrs.length<=100000/\n.data.length<=100000
def inR(n:Nat)(p:Int):Bool:=decide (-1<=p/\p<n)
def TY(k:Nat)(n:Nd):Bool:=decide (n.ptrs.length+n.data.length<=255)&&n.ptrs.all (inR k)
def right(g:Gr):Bool:=decide (g.roots.length<=16)&&g.nodes.all (TY g.nodes.length)&&g.roots.all (inR g.nodes.length)
def Tu{α:Type}{p:α->Bool}{l:List α}{i:Nat}{x:α}(h:l[i]?=some x):(l.take (i+1)).all p=((l.take i).all p&&p x):=by
 rw[ZhE,h,Zky];simp
def VD{α:Type}{p:α->Bool}{l:List α}{i:Nat}{x:α}(h:l[i]?=some x)(hp:p x=false):l.all p=false:=by
 rw[List.all_eq_false];exact⟨x,ZgQ h,by simp[hp]⟩
def Z1W{l:List Int}{ns:List V}{rs:V}(hl:l.length<=100000)(hr:rs.one=true)(ho:oneV rs=some rs):
  VCM Sol.prog 50 [.fz,.mem [.fz,.fz]] [.sl (l.map vi),.agg [.sl ns,rs]] (.tup [.bool (l.all (inR ns.length)),.agg [.sl ns,rs]]):=by
 refine WY Sol.func50 follows (by kernel_rfl) c50 (by kernel_rfl) ?_;simp[-List.all_eq_true,-List.all_eq_false,p50];refine YQ (λt=>∃i:Nat,i<=l.length/\(l.take i).all (inR ns.length)=true/\t=[.v (.sl (l.map vi)),.m [.sl ns,rs],.v (.bool false),.v (vi i),.v (vi l.length),.no,.no,.v (.sl (l.map vi))]) (λt=>match get t 3 with|.v (.int _ n)=>l.length-n.toNat|_=>0) ?_ ?_
 ·exact⟨0,by simp,by simp,by simp⟩
 ·rintro t ⟨i,hi,hall,rfl⟩;by_cases h:i<l.length
  ·have hx:l[i]?=some l[i]:=ZgJ h;simp[-List.all_eq_true,-List.all_eq_false,h];simp(disch:=omega) only[Z6];split
   ·exact VD hx (by simp[inR];omega)
   ·split
    ·exact VD hx (by simp[inR];omega)
    ·refine⟨⟨i+1,by omega,?_,by simp⟩,by omega⟩;rw[Tu hx,hall];simp[inR];omega
  ·have:i=l.length:=by omega
   subst this;simp[-List.all_eq_true,-List.all_eq_false];simpa using hall
def Z2w{g:Gr}(hg:g.sm):VC Sol.prog 19 false [grV g] (.bool (right g)):=by
 obtain⟨hg1,hg2,hg3⟩:=hg;refine Z9 Sol.func19 follows (by kernel_rfl) c19 rfl ?_;simp[-List.all_eq_true,-List.all_eq_false,p19];split
 ·rename_i h;simp[-List.all_eq_true,-List.all_eq_false,right,show ¬g.roots.length<=16 by omega]
 ·rename_i h;refine YQ (λt=>∃i:Nat,i<=g.nodes.length/\(g.nodes.take i).all (TY g.nodes.length)=true/\t=[.v (grV g),.m [.sl (g.nodes.map ndV),.sl (g.roots.map vi)],.v (.bool false),.v (.bool false),.no,.v (vi i),.v (vi g.nodes.length),.no,.no,.v (.sl (g.nodes.map ndV))]) (λt=>match get t 5 with|.v (.int _ n)=>g.nodes.length-n.toNat|_=>0) ?_ ?_
  ·exact⟨0,by simp,by simp,by simp[h]⟩
  ·rintro t ⟨i,hi,hall,rfl⟩;by_cases hlt:i<g.nodes.length
   ·have hx:g.nodes[i]?=some g.nodes[i]:=ZgJ hlt;obtain⟨h1,h2⟩:=hg3 _ (ZgZ hlt);have hw:=Z6 ((i:Int)+1) (by omega) (by omega);simp[-List.all_eq_true,-List.all_eq_false,hlt,hw];simp(disch:=omega) only[Z6];have hno:TY g.nodes.length g.nodes[i]=false->right g=false:=λh0=>by simp[-List.all_eq_true,-List.all_eq_false,right,VD hx h0]
    by_cases h3:(g.nodes[i].ptrs.length:Int)+(g.nodes[i].data.length:Int)<=255
    ·rw[if_pos h3];refine Ya (Z1W h1 (by rfl) (by rfl)) ?_;have h3':¬(255:Int)< (g.nodes[i].ptrs.length:Int)+(g.nodes[i].data.length:Int):=by omega
     cases h4:g.nodes[i].ptrs.all (inR g.nodes.length)
     ·simp[-List.all_eq_true,-List.all_eq_false,h3',h4];exact hno (by simp[-List.all_eq_true,-List.all_eq_false,TY,h4])
     ·simp[-List.all_eq_true,-List.all_eq_false,h3',h4,hw];refine⟨⟨i+1,by omega,?_,by simp⟩,by omega⟩;rw[Tu hx,hall];simp[-List.all_eq_true,-List.all_eq_false,TY,h4];omega
    ·rw[if_neg h3];exact hno (by simp[-List.all_eq_true,-List.all_eq_false,TY];intro;omega)
   ·have:i=g.nodes.length:=by omega
    subst this;simp[-List.all_eq_true,-List.all_eq_false];refine Ya (Z1W hg2 (by rfl) (by rfl)) ?_;rw[Zib]at hall;simp[-List.all_eq_true,-List.all_eq_false,right,hall];omega
end Vm
namespace Vm
open Go Go.Proofs
def Z5u{a b:List Int}(ha:a.length<=100000):VC Sol.prog 48 false [.sl (a.map vi),.sl (b.map vi)] (.bool (decide (a=b))):=by
 refine Z9 Sol.func48 follows (by kernel_rfl) c48 rfl ?_;by_cases hl:a.length=b.length
 ·simp[p48,hl];refine YQ (λt=>∃i:Nat,i<=b.length/\a.take i=b.take i/\t=[.v (.sl (a.map vi)),.v (.sl (b.map vi)),.v (.bool false),.v (.bool false),.v (vi i)]) (λt=>match get t 4 with|.v (.int _ n)=>b.length-n.toNat|_=>0) ?_ ?_
  ·exact⟨0,by simp,by simp,by simp⟩
  ·rintro t ⟨i,hi,heq,rfl⟩;by_cases h:i<b.length
   ·have h':i<a.length:=by omega
    by_cases hx:a[i]=b[i]
    ·simp[h,h',hx];simp(disch:=omega) only[Z6];exact⟨⟨i+1,by omega,Uc heq (by simp[h,h',hx]),by simp⟩,by omega⟩
    ·simp[h,h',hx];exact ZcN (i:=i) (by simp[h,h',hx])
   ·have:i=b.length:=by omega
    subst this;rw[Zib,Zhi (by omega)]at heq;simp[heq]
 ·simp[p48,show ¬((a.length:Int)=(b.length:Int))by omega];intro e;subst e;exact hl rfl
end Vm
namespace Vm
open Go Go.Proofs
def upto(n:Nat):List V:=(List.range n).map λ(i:Nat)=>vi i
def atM(id:Nat)(l:List Int):V:=.mp id (l.map vi) (upto l.length)
def YB:List Int->List Int->List Int
 |acc,[]=>acc
 |acc,x::l=>YB (if 0<=x/\x∉acc then acc++[x]else acc) l
def z6{x:Int}:∀ {l:List Int},Kn (vi x) (l.map vi)=some (l.findIdx? (· ==x))
 | []=>rfl
 |y::l=>by
  simp only[Zha,Kn,Z5w,Zhp,Zk3];by_cases h:x=y
  ·subst h;simp
  ·have h2:(x==y)=false:=by simpa using h
   have h3:(y==x)=false:=by simpa using ZiO h
   simp[h2,h3,z6]
def Wl{x:Int}{l:List Int}:l.findIdx? (· ==x)=none↔x∉l:=by
 rw[Zk8];constructor
 ·intro h hm;have:=h x hm;simp at this
 ·intro h y hy;simp;intro e;subst e;exact h hy
def Z97{id:Nat}{l:List Int}{x:Int}{z:V}{ok:Bool}:lkV (.i .i64) (atM id l) (vi x) z ok=match l.findIdx? (· ==x)with
  |some i=>some (if ok then .tup [vi i,.bool true]else vi i)
  |none=>some (if ok then .tup [z,.bool false]else z):=by
 unfold lkV atM;simp only[isK,ZjV,Zjm,Zhr,z6];cases h:l.findIdx? (· ==x)with
 |none=>rfl
 |some i=>
  have hlt:i<l.length:=by
   have:=Zhx.1 h;exact this.1
  simp[upto,hlt]
def Z7Y{id:Nat}{l:List Int}{x:Int}(hx:x∉l):Js (.i .i64) (atM id l) (vi x) (vi l.length)=some (atM id (l++[x])):=by
 unfold Js atM;simp only[isK,ZjV,Zjm,Zhr,z6,Wl.2 hx];simp[upto,ZiA]
@[simp] theorem Zfh(id:Nat)(l:List Int):oneV (atM id l)=some (atM id l):=rfl
def qM{ns acc:List Int}{id:Nat}(hns:ns.length<=100000)(hacc:acc.length<=1000000):VCM Sol.prog 102 [.fz,.mem [.own 97],.mem [.own 3]] [.sl (ns.map vi),.agg [atM id acc],.agg [.sl (acc.map vi)]]
  (.tup [.tup [],.agg [atM id (YB acc ns)],.agg [.sl ((YB acc ns).map vi)]]):=by
 refine WY Sol.func102 follows (by kernel_rfl) c102 (by kernel_rfl) ?_;simp[p102];refine YQ (λt=>∃i l,i<=ns.length/\YB l (ns.drop i)=YB acc ns/\l.length<=1000000+i/\t=[.v (.sl (ns.map vi)),.m [atM id l],.m [.sl (l.map vi)],.v (vi (i:Nat)),.v (vi ns.length),.no,.no,.v (.sl (ns.map vi))]) (λt=>match get t 3 with|.v (.int _ n)=>ns.length-n.toNat|_=>0) ?_ ?_
 ·exact⟨0,acc,by simp,by simp,by omega,by simp⟩
 ·rintro t ⟨i,l,hi,hn,hl,rfl⟩;by_cases h:i<ns.length
  ·have hd:ns.drop i=ns[i]::ns.drop (i+1):=(ZhF h);rw[hd,YB]at hn;simp[h,Z97];by_cases hm:ns[i]∈l
   ·have hsome:∃j,l.findIdx? (· ==ns[i])=some j:=by
     cases hj:l.findIdx? (· ==ns[i])with
     |none=>exact absurd hm (Wl.1 hj)
     |some j=>exact⟨j,rfl⟩
    obtain⟨j,hj⟩:=hsome;simp[hj,flV,V.flatc];simp(disch:=omega) only[Z6];rw[if_neg (by simp[hm])]at hn;exact⟨⟨i+1,by omega,l,hn,by omega,rfl,rfl,by simp⟩,by omega⟩
   ·simp[Wl.2 hm,flV,V.flatc];simp(disch:=omega) only[Z6];by_cases h0:0<=ns[i]
    ·rw[if_pos h0,Z7Y hm];rw[if_pos ⟨h0,hm⟩]at hn;simp;refine⟨by simp[lim];omega,⟨i+1,by omega,l++[ns[i]],hn,by simp;omega,rfl,by simp,by simp⟩,by omega⟩
    ·rw[if_neg h0];rw[if_neg (by simp[h0])]at hn;exact⟨⟨i+1,by omega,l,hn,by omega,rfl,rfl,by simp⟩,by omega⟩
  ·have:i=ns.length:=by omega
   subst this;simp[YB]at hn;subst hn;simp
@[simp] theorem Ze9(id:Nat)(l:List Int):(atM id l).cells=[atM id l]:=rfl
def Good(n:Nat)(l:List Int):Prop:=l.Nodup/\∀x∈l,0<=x/\x<n
def zA:∀(n:Nat) {l:List Int},l.Nodup->(∀x∈l,0<=x/\x<n)->l.length<=n
 |0,l,_,h=>by
  cases l with
  |nil=>simp
  |cons x l=>have:=h x (by simp);omega
 |n+1,l,hn,h=>by
  by_cases hm:(n:Int)∈l
  ·have h1:=zA n (hn.erase (n:Int)) λx hx=>by
    have hx':=(hn.mem_erase_iff).1 hx;have:=h x hx'.2;omega
   rw[List.length_erase_of_mem hm]at h1;omega
  ·have:=zA n hn λx hx=>by
    have h1:=h x hx;have:x≠n:=λe=>hm (e▸hx);omega
   omega
def Good.len{n:Nat}{l:List Int}(h:Good n l):l.length<=n:=zA n h.1 h.2
def Xm{n:Nat}:∀ {ns acc:List Int},Good n acc->(∀x∈ns,x<n)->Good n (YB acc ns)
 | [],acc,h,_=>h
 |x::ns,acc,h,hx=>by
  simp only[YB];refine Xm ?_ λy hy=>hx y (by simp[hy]);split
  ·rename_i hc;refine⟨?_,λy hy=> ?_⟩
   ·rw[Zjv];exact⟨h.1,by simp,λa ha b hb=>by simp at hb;subst hb;exactλe=>hc.2 (e▸ha)⟩
   ·rcases Zh9.1 hy with hy|hy
    ·exact h.2 y hy
    ·simp at hy;subst hy;exact⟨hc.1,hx _ (by simp)⟩
  ·exact h
def VV(g:Gr):Nat->Nat->List Int->List Int
 |0,_,l=>l
 |f+1,i,l=>match l[i]? with
  |some x=>VV g f (i+1) (YB l ((g.nodes[x.toNat]?).getD default).ptrs)
  |none=>l
def order(g:Gr):List Int:=VV g (g.nodes.length+1) 0 (YB [] g.roots)
def Z95{n:Nat}{p:Int}(h:inR n p=true): -1<=p/\p<n:=by simpa[inR]using h
def Vs{g:Gr}(hr:right g=true):∀x∈g.roots,-1<=x/\x<g.nodes.length:=by
 simp only[right,ZgM,ZgT]at hr;exactλx hx=>Z95 (hr.2 x hx)
def R6{g:Gr}(hr:right g=true):∀n∈g.nodes,∀x∈n.ptrs,-1<=x/\x<g.nodes.length:=by
 simp only[right,ZgM,ZgT,TY]at hr;exactλn hn x hx=>Z95 ((hr.1.2 n hn).2 x hx)
def Z89{g:Gr}(hg:g.sm)(hr:right g=true)(id:Nat)(ks vs:List V):
  wpS Sol.prog p80.body [.v (grV g),.v (.mp id ks vs)] (λs=>get s 4=.v (.sl ((order g).map vi))/\get s 3=.m [atM id (order g)]) (λ_ _=>False) (λs=>get s 4=.v (.sl ((order g).map vi))/\get s 3=.m [atM id (order g)]):=by
 obtain⟨hg1,hg2,hg3⟩:=hg;simp[p80];refine Ya (qM (ns:=g.roots) (acc:=[]) (id:=id) hg2 (by simp)) ?_;simp;have hroots:=Vs hr;have hgood:Good g.nodes.length (YB [] g.roots):=Xm ⟨by simp,by simp⟩ λx hx=>(hroots x hx).2;refine YQ (λt=>∃i l,i<=l.length/\Good g.nodes.length l/\VV g (g.nodes.length+1-i) i l=order g/\t=[.v (grV g),.no,.m [.sl (g.nodes.map ndV),.sl (g.roots.map vi)],.m [atM id l],.v (.sl []),.m [.sl (l.map vi)],.no,.v (vi (i:Nat))]) (λt=>match get t 7 with|.v (.int _ n)=>g.nodes.length-n.toNat|_=>0) ?_ ?_
 ·exact⟨0,_,by simp,hgood,rfl,by simp⟩
 ·rintro t ⟨i,l,hi,hl,ho,rfl⟩;have hlen:=hl.len;by_cases h:i<l.length
  ·obtain⟨x0,x1⟩:=hl.2 _ (ZgZ h);obtain⟨k,hk⟩:=Zh4 x0;have hkl:k<g.nodes.length:=by omega
   have hx:l[i]?=some (k:Int):=by rw[ZgJ h,hk]
   simp[h,hk,hkl];refine Ya (qM (hg3 _ (ZgZ hkl)).1 (by omega)) ?_;simp;simp(disch:=omega) only[Z6];have hgood':Good g.nodes.length (YB l g.nodes[k].ptrs):=Xm hl λx hx=>(R6 hr _ (ZgZ hkl) x hx).2;refine⟨⟨i+1,_,?_,hgood',?_,rfl,rfl,by simp⟩,by omega⟩
   ·have:∀ {ns acc:List Int},acc.length<=(YB acc ns).length:=by
     intro ns
     induction ns with
     |nil=>intro acc;simp[YB]
     |cons y ns ih=>
      intro acc;simp only[YB];refine Zhc ?_ ih;split<;>simp
    exact Zhc h this
   ·rw[show g.nodes.length+1-i=(g.nodes.length+1- (i+1))+1 by omega,VV,hx]at ho;simpa[hkl]using ho
  ·have:i=l.length:=by omega
   subst this
   have hol:l=order g:=by
    rw[<-ho];cases hf:g.nodes.length+1-l.length with
    |zero=>omega
    |succ f=>simp[VV]
   subst hol;simp
def Z6b{g:Gr}(hg:g.sm)(hr:right g=true)(id:Nat)(ks vs:List V):VCM Sol.prog 80 [.fz,.own 97] [grV g,.mp id ks vs] (.tup [.sl ((order g).map vi),atM id (order g)]):=by
 refine⟨by kernel_rfl,λB w h us hok hA=> ?_⟩;obtain⟨hA1,hA2,hA3⟩:=hA;obtain⟨tk1,ht1,hr1⟩:=hA3 1 (.own 97) (.mp id ks vs) rfl rfl;simp only[argK,ZgH]at ht1;subst ht1;obtain⟨x1,hx1,hown⟩:=hr1;simp only[eval,ZgH]at hx1;subst hx1;rcases hown with ⟨_,_,hl,_⟩|⟨id',ks',vs',b,es,clk,he,hv,hbl,hB,hid,hh,h1,h2,h3,h4⟩
 ·cases hl
 cases he
 have hA':RelA Sol.prog B w h [.fz,.own 97] [grV g,.mp (b+1) ks vs] us:=by
  refine⟨rfl,hA2,λi k x hk hx=> ?_⟩
  match i,hk,hx with
  |0,hk,hx=>exact hA3 0 k x hk hx
  |1,hk,hx=>
   simp at hk hx;subst hk hx;exact⟨_,rfl,_,rfl,.inr ⟨b+1,ks,vs,b,es,clk,rfl,hv,hbl,hB,.inr rfl,hh,h1,h2,h3,h4⟩⟩
  |i+2,hk,hx=>simp at hk
 refine Z1Y (cf:=p80) (fin:=[(3,.mem [.own 97])]) (xs:=[grV g,.mp (b+1) ks vs]) (Rt:=λs=>get s 4=.v (.sl ((order g).map vi))/\get s 3=.m [atM (b+1) (order g)]) Sol.func80 follows c80 (Z89 hg hr (b+1) ks vs) hok hA' λc s S a w' h' hP hix hix2 hres hRt hrel hnil hK hfrm hfin=> ?_;rw[<-hP]at hfin hres⊢;simp only[qS,ZgM,ZgT]at hfin;obtain⟨hfin1,hle⟩:=hfin;obtain⟨hrel2,hnil2⟩:=Ts hrel hnil hle;have hix3:c.ix 3=3:=hix2 3 (by decide)
 have hr:resV s (Z6t c.P c.ix Try.f80)=some (.sl ((order g).map vi)):=by
  rw[<-hres];simp[p80,hRt.1]
 obtain⟨v,hv',hvr⟩:=WT (D:=(h'.drop (Tb S [(3,.mem [.own 97])])).F) hrel hnil (λb hb=>.inl hb) (λq hq=>by
  have h1:=hfin1 q hq;have h2:=ZgT.1 (show Z2s Try.f80 [(3,.mem [.own 97])]=true by kernel_rfl) q hq;refine⟨h1,λi b hb=>.inr ⟨U5 q,i+1,?_,by omega,hb⟩⟩;unfold Tb;rw[Zka.1 h2];cases S.at (U5 q)with
  |none=>rfl
  |some k=>cases k<;>rfl) hr
 obtain⟨u,hu,b3,us3,T3,e1,e2,e3,e4,e5⟩:=hrel2.at_ 3 (by rw[Zk];exact Zb s c) (by rw[Zk];rfl);obtain⟨X,hX,hown2⟩:=e5 0 (.own 97,.m (c.ix 3) 0) rfl
 have hXe:X=atM (b+1) (order g):=by
  simp only[eval,hix3,hRt.2]at hX;simpa using hX.symm
 subst hXe;rcases hown2 with ⟨_,_,hl,_⟩|⟨id2,ks2,vs2,b2,es2,clk2,he2,hv2,hbl2,hB2,hid2,hh2,q1,q2,q3,q4⟩
 ·cases hl
 simp only[atM,V.mp.injEq]at he2;obtain⟨rfl,rfl,rfl⟩:=he2;have hbb:b2=b:=by omega
 subst hbb;obtain⟨r1,r2,r3⟩:=hrel2.ok.b_lt 3 1 b2 hbl2
 refine⟨v,hv',v,.sl ((order g).map vi),[.bool false,atM id (order g)],{F:=(h'.drop (Tb S [(3,.mem [.own 97])])).F,bl:=λt i=>if t=1/\i=1 then some b2 else none,K:=h'.K},rfl,hfrm.below,hfrm.same,
  ⟨hrel2.ok.base,hrel2.ok.f_lt,hrel2.ok.f_or,hrel2.ok.g_F,λt i x hx=> ?_,λt i t' i' x hx hx'=> ?_,hrel2.ok.k_lt,λt i x hx=> ?_,hrel2.ok.k_F⟩,hK,hvr,⟨rfl,λi k y hk hkz hy=> ?_⟩,rfl⟩
 ·simp only at hx;split at hx
  ·simp only[ZgH]at hx;subst hx;exact⟨r1,r2,r3⟩
  ·cases hx
 ·simp only at hx hx';split at hx<;>split at hx'<;>first|(cases hx;done)|(cases hx';done)|skip
  rename_i c1 c2;exact⟨c1.1.trans c2.1.symm,c1.2.trans c2.2.symm⟩
 ·simp only at hx;split at hx
  ·simp only[ZgH]at hx;subst hx;exact hrel2.ok.k_bl 3 1 b2 hbl2
  ·cases hx
 ·match i,hk,hy with
  |0,hk,hy=>simp at hk;exact absurd hk.symm hkz
  |1,hk,hy=>
   simp at hk hy;subst hk hy;exact⟨_,rfl,_,rfl,.inr ⟨id,_,_,b2,es2,clk2,rfl,hv,by simp,hB,hid,hh2,q1,q2,q3,q4⟩⟩
  |i+2,hk,hy=>simp at hk
end Vm
namespace Vm
open Go Go.Proofs
def at0(l:List Int)(p:Int):Int:=match l.findIdx? (· ==p)with
 |some i=>(i:Nat)
 |none=>0
def Xf(l ps:List Int):List Int:=ps.map λp=>if 0<=p then at0 l p else p
def UY(g:Gr)(l:List Int)(x:Int):Nd:=let n:=(g.nodes[x.toNat]?).getD default;⟨Xf l n.ptrs,n.data⟩
def Xd(g:Gr):Gr:=⟨(order g).map (UY g (order g)),Xf (order g) g.roots⟩
def Za9{id:Nat}{l:List Int}{x:Int}:lkV (.i .i64) (atM id l) (vi x) (vi 0) false=some (vi (at0 l x)):=by
 rw[Z97];unfold at0;cases l.findIdx? (· ==x)<;>simp
def Z9Q{l:List Int}:∀c∈flat (l.map vi),c.flatc=true:=by
 intro c hc;simp only[flat,Zij,ZgX]at hc;obtain⟨y,⟨a,_,rfl⟩,hc⟩:=hc;have:c=vi a:=by simpa[V.cells]using hc
 subst this;rfl
def Z2d{ps l:List Int}{id:Nat}(hp:ps.length<=100000):VC Sol.prog 81 true [.sl (ps.map vi),atM id l] (.sl ((Xf l ps).map vi)):=by
 refine Z8J (t:=4) (ty:=3) Sol.func81 follows (by kernel_rfl) rfl c81 rfl Z9Q ?_;simp[p81];refine YQ (λt=>∃i:Nat,i<=ps.length/\t=[.v (.sl (ps.map vi)),.v (atM id l),.v (.sl []),.v (.sl ((Xf l (ps.take i)).map vi)),.v (vi i),.v (vi ps.length),.no,.no,.v (.sl (ps.map vi))]) (λt=>match get t 4 with|.v (.int _ n)=>ps.length-n.toNat|_=>0) ?_ ?_
 ·exact⟨0,by simp,by simp[Xf]⟩
 ·rintro t ⟨i,hi,rfl⟩;by_cases h:i<ps.length
  ·have hx:ps[i]?=some ps[i]:=ZgJ h
   have hstep:Xf l (ps.take (i+1))=Xf l (ps.take i)++[if 0<=ps[i]then at0 l ps[i]else ps[i]]:=by
    unfold Xf;rw[ZhE,hx,ZhU];rfl
   have hlen:(Xf l (ps.take i)).length<=100000:=by simp[Xf];omega
   simp[h];simp(disch:=omega) only[Z6];by_cases h0:0<=ps[i]
   ·simp[h0,Za9];refine⟨by simp[lim];omega,⟨i+1,by omega,by rw[hstep];simp[h0],by simp⟩,by omega⟩
   ·simp[h0];refine⟨by simp[lim];omega,⟨i+1,by omega,by rw[hstep];simp[h0],by simp⟩,by omega⟩
  ·have:i=ps.length:=by omega
   subst this;simp
def Jy{g:Gr}(hr:right g=true):∀ {f i:Nat} {l:List Int},Good g.nodes.length l->Good g.nodes.length (VV g f i l)
 |0,i,l,h=>h
 |f+1,i,l,h=>by
  simp only[VV];split
  ·rename_i x hx;refine Jy hr (Xm h λy hy=> ?_);obtain⟨x0,x1⟩:=h.2 x (ZgQ hx);have hlt:x.toNat<g.nodes.length:=by omega
   rw[ZgJ hlt]at hy;exact(R6 hr _ (ZgZ hlt) y hy).2
  ·exact h
def XM{g:Gr}(hr:right g=true):Good g.nodes.length (order g):=
 Jy hr (Xm ⟨by simp,by simp⟩ λx hx=>(Vs hr x hx).2)
def Z4I{g:Gr}(hg:g.sm)(hr:right g=true)(id:Nat)(ks vs:List V):VCM Sol.prog 47 [.fz,.own 97] [grV g,.mp id ks vs] (.tup [grV (Xd g),atM id (order g)]):=by
 refine WY Sol.func47 follows (by kernel_rfl) c47 (by kernel_rfl) ?_;simp[p47];refine Ya (Z6b hg hr id ks vs) ?_;simp;obtain⟨hg1,hg2,hg3⟩:=hg;have hgood:=XM hr;have hlen:=hgood.len;generalize ho:order g=l at hgood hlen;refine YQ (λt=>∃i:Nat,i<=l.length/\t=[.v (grV g),.v (atM id l),.m [.sl (g.nodes.map ndV),.sl (g.roots.map vi)],.m [.sl [],.sl []],.m [.sl (((l.take i).map (UY g l)).map ndV),.sl []],.v (vi i),.v (vi l.length),.no,.no,.v (.sl (l.map vi))]) (λt=>match get t 5 with|.v (.int _ n)=>l.length-n.toNat|_=>0) ?_ ?_
 ·exact⟨0,by simp,by simp⟩
 ·rintro t ⟨i,hi,rfl⟩;by_cases h:i<l.length
  ·have hx:l[i]?=some l[i]:=ZgJ h;obtain⟨x0,x1⟩:=hgood.2 _ (ZgZ h);obtain⟨k,hk⟩:=Zh4 x0;have hkl:k<g.nodes.length:=by omega
   obtain⟨s1,s2⟩:=hg3 _ (ZgZ hkl);simp[h,hk,hkl];refine Z1 (Z2d s1) (by simp) ?_;simp;simp(disch:=omega) only[Z6]
   have hnd:V.agg [V.sl (List.map vi (Xf l g.nodes[k].ptrs)),V.sl (List.map vu g.nodes[k].data)]=ndV (UY g l l[i]):=by
    simp[UY,hk,hkl,ndV]
   refine⟨by simp[lim];omega,by simp[lim];omega,⟨i+1,by omega,?_,by simp⟩,by omega⟩;rw[ZhE,Zh2,hx,hnd];rfl
  ·have:i=l.length:=by omega
   subst this;simp;refine Z1 (Z2d hg2) (by simp) ?_;simp;simp[Xd,grV,ho]
def Z7q{g:Gr}(hg:g.sm)(hr:right g=true):(Xd g).sm:=by
 obtain⟨hg1,hg2,hg3⟩:=hg;have hgood:=XM hr;have hlen:=hgood.len;refine⟨by simp[Xd];omega,by simpa[Xd,Xf]using hg2,λn hn=> ?_⟩;simp only[Xd,ZgX]at hn;obtain⟨x,hx,rfl⟩:=hn;obtain⟨x0,x1⟩:=hgood.2 x hx;have hlt:x.toNat<g.nodes.length:=by omega
 have:=hg3 _ (ZgZ hlt);simpa[UY,hlt,Xf]using this
def noGr:Gr:=⟨[],[]⟩
def XD(g:Gr):V:=if right g=true then .tup [grV (Xd g),vi 0]else .tup [grV noGr,vi 1]
def Z7a{g:Gr}(hg:g.sm):VC Sol.prog 17 false [grV g] (XD g):=by
 refine Z9 Sol.func17 follows (by kernel_rfl) c17 rfl ?_;simp[p17];refine Z1 (Z2w hg) (by simp) ?_;cases hr:right g
 ·simp[XD,hr,noGr,grV]
 ·simp;refine Ya (Z4I hg hr 0 [] []) ?_;simp[XD,hr];simp[grV]
def Z9y{a b:Gr}(ha:a.sm):VC Sol.prog 18 false [grV a,grV b] (.bool (decide (a=b))):=by
 refine Z9 Sol.func18 follows (by kernel_rfl) c18 rfl ?_;obtain⟨h1,h2,h3⟩:=ha;simp[p18];refine Z1 (Z5u h2) (by simp) ?_;by_cases hr:a.roots=b.roots
 ·simp[hr];by_cases hl:a.nodes.length=b.nodes.length
  ·simp[hl];refine YQ (λt=>∃i:Nat,i<=b.nodes.length/\a.nodes.take i=b.nodes.take i/\t=[.v (grV a),.v (grV b),.m [.sl (a.nodes.map ndV),.sl (a.roots.map vi)],.m [.sl (b.nodes.map ndV),.sl (b.roots.map vi)],.v (.bool false),.v (.bool true),.v (.bool false),.v (vi i)]) (λt=>match get t 7 with|.v (.int _ n)=>b.nodes.length-n.toNat|_=>0) ?_ ?_
   ·exact⟨0,by simp,by simp,by simp[hr]⟩
   ·rintro t ⟨i,hi,heq,rfl⟩;by_cases h:i<b.nodes.length
    ·have h':i<a.nodes.length:=by omega
     obtain⟨s1,s2⟩:=h3 _ (ZgZ h');simp[h,h',hl];refine Z1 (Z5u s1) (by simp) ?_;simp[h,h',hl];refine Z1 (Zam (Zhc s2 (by omega))) (by simp) ?_;by_cases hp:a.nodes[i].ptrs=b.nodes[i].ptrs
     ·by_cases hd:a.nodes[i].data=b.nodes[i].data
      ·simp[hp,hd];simp(disch:=omega) only[Z6]
       have hx:a.nodes[i]=b.nodes[i]:=by
        generalize a.nodes[i]=x at hp hd;generalize b.nodes[i]=y at hp hd;cases x;cases y;simp at hp hd;simp[hp,hd]
       exact⟨⟨i+1,by omega,Uc heq (by simp[h,h',hx]),by simp⟩,by omega⟩
      ·simp[hp,hd];intro e;subst e;exact hd rfl
     ·simp[hp];intro e;subst e;exact hp rfl
    ·have:i=b.nodes.length:=by omega
     subst this;rw[Zib,Zhi (by omega)]at heq;simp[hl];cases a;cases b;simp at heq hr;simp[heq,hr]
  ·simp[show ¬((a.nodes.length:Int)=(b.nodes.length:Int))by omega];intro e;subst e;exact hl rfl
 ·simp[hr];intro e;subst e;exact hr rfl
end Vm
namespace Vm
open Go Go.Proofs
end Vm
end
section
namespace Vm
open Go Go.Proofs
def g0:Gr:=⟨[⟨[],[]⟩,⟨[],[4]⟩,⟨[1],[]⟩,⟨[],[]⟩],[2,0]⟩
def g1:Gr:=⟨[],[0]⟩
def g2:Gr:=⟨[],[-1,-1]⟩
end Vm
end
section

end
section
namespace Vm
open Go Go.Proofs
def outs(g:Gr)(x:Int):List Int:=((g.nodes[x.toNat]?).getD default).ptrs
def RH:∀(a:List Int) {acc b:List Int},YB acc (a++b)=YB (YB acc a) b
 | [],_,_=>rfl
 |x::a,acc,b=>by simp only[ZhX,YB];exact RH a
def qK:∀(l:List Int) {acc:List Int},∃t,YB acc l=acc++t
 | [],acc=>⟨[],by simp[YB]⟩
 |x::l,acc=>by
  simp only[YB];obtain⟨t,ht⟩:=qK l (acc:=if 0<=x/\x∉acc then acc++[x]else acc);rw[ht];split
  ·exact⟨x::t,by simp⟩
  ·exact⟨t,rfl⟩
def Ju:∀ {l acc:List Int} {x:Int},x∈YB acc l↔x∈acc\/(x∈l/\0<=x)
 | [],acc,x=>by simp[YB]
 |y::l,acc,x=>by
  simp only[YB,Ju (l:=l),Zh0];split
  ·rename_i h;simp only[Zh9,ZhJ];constructor
   ·rintro((h1|rfl)|h1)
    ·exact .inl h1
    ·exact .inr ⟨.inl rfl,h.1⟩
    ·exact .inr ⟨.inr h1.1,h1.2⟩
   ·rintro(h1|⟨rfl|h1,h2⟩)
    ·exact .inl (.inl h1)
    ·exact .inl (.inr rfl)
    ·exact .inr ⟨h1,h2⟩
  ·rename_i h;constructor
   ·rintro(h1|h1)
    ·exact .inl h1
    ·exact .inr ⟨.inr h1.1,h1.2⟩
   ·rintro(h1|⟨rfl|h1,h2⟩)
    ·exact .inl h1
    ·exact .inl (by by_cases hx:x∈acc;exact hx;exact(h ⟨h2,hx⟩).elim)
    ·exact .inr ⟨h1,h2⟩
def yW{g:Gr}(hr:right g=true)(x:Int):∀y∈outs g x,-1<=y/\y<g.nodes.length:=by
 intro y hy;unfold outs at hy;cases hn:g.nodes[x.toNat]? with
 |none=>rw[hn]at hy;cases hy
 |some n=>rw[hn]at hy;exact R6 hr n (ZgQ hn) y hy
def RI{g:Gr}(hr:right g=true):∀ {f i:Nat} {l:List Int},Good g.nodes.length l->i<=l.length->g.nodes.length<f+i->l=YB [] (g.roots++(l.take i).flatMap (outs g))->
  VV g f i l=YB [] (g.roots++(VV g f i l).flatMap (outs g))
 |0,i,l,hg,hi,hf,hl=>by have:=hg.len;omega
 |f+1,i,l,hg,hi,hf,hl=>by
  simp only[VV];cases hx:l[i]? with
  |none=>
   have:l.length<=i:=by simpa using hx
   rw[Zhi this]at hl;exact hl
  |some x=>
   have hil:i<l.length:=by
    rcases ZkF i l.length with h|h
    ·exact h
    ·rw[Zi1 h]at hx;cases hx
   obtain⟨t,ht⟩:=qK (outs g x) (acc:=l);refine RI hr (Xm hg λy hy=>(yW hr x y hy).2) ?_ (by omega) ?_
   ·show i+1<=(YB l (outs g x)).length;rw[ht,ZhZ];omega
   ·show YB l (outs g x)=YB [] (g.roots++((YB l (outs g x)).take (i+1)).flatMap (outs g));rw[ht,List.take_append_of_le_length (by omega),ZhE,hx,<-ht];simp only[Zix,Option.toList,<-ZhR];rw[RH,<-hl];simp
def Jz{g:Gr}(hr:right g=true):order g=YB [] (g.roots++(order g).flatMap (outs g)):=by
 refine RI hr (Xm ⟨List.nodup_nil,by simp⟩ λy hy=>(Vs hr y hy).2) (ZhO _) (by omega) ?_;simp
end Vm
end
section
namespace Vm
open Go
open Go.Proofs
def p21:Fn:=⟨10,[0,1,2,8,3,12,11,13,5,10],
pQ [pR [(1,pS 0 2),pV 2 (pI 0)],pQ [pC [pK 10 19 [.mm 1 0 2]] [pV 3 (.un .not (.s 10))]] (.cond (.s 3) (pQ [pR [pV 2 (pI 0)]] .ret) .skip),pR [pV 4 (pI 0)],pQ [pR [pV 5 (pI 0),pV 6 (.len (.m 1 0)),pV 9 (.m 1 0)]] (.block 0 (.loop [0,1,2,3,4,5,6,9] (pQ [pR [pV 7 (.bin .lss (.s 5) (.s 6))],.cond (.s 7) .skip (.exit 0),.block 1 (pQ [pR [(8,pM (.flds (.idx (.s 9) (.s 5) 2) 0 2) 2)]] (pR [pV 4 (.bin .add (.s 4) (.bin .add (.bin .add (pI 1) (.len (.m 8 0))) (.len (.m 8 1))))]))] (pR [pV 5 (.bin .add (.s 5) (pI 1))])))),pR [pV 2 (.s 4)]] .ret,[(2,.v)]⟩
def c21:Zj Sol.prog fresh sig [.fz] [] Try.f21=some p21:=by kernel_rfl
end Vm
end
section
namespace Vm
open Go Go.Proofs
def ndW(n:Nd):Nat:=1+n.ptrs.length+n.data.length
def wsum(l:List Nd):Nat:=(l.map ndW).sum
def words(g:Gr):Nat:=if right g=true then wsum g.nodes else 0
def Z76{l:List Nd}{i:Nat}{x:Nd}(h:l[i]?=some x):wsum (l.take (i+1))=wsum (l.take i)+ndW x:=by
 unfold wsum;rw[ZhE,h,ZhU,ZjS];simp
def ZaZ{l:List Nd}(h:∀n∈l,n.ptrs.length<=100000/\n.data.length<=100000)(i:Nat):wsum (l.take i)<=l.length*200001:=by
 have:∀ {l:List Nd},(∀n∈l,n.ptrs.length<=100000/\n.data.length<=100000)->wsum l<=l.length*200001:=by
  intro l
  induction l with
  |nil=>intro _;simp[wsum]
  |cons x l ih=>
   intro h;have h1:=ih λn hn=>h n (by simp[hn]);have h2:=h x (by simp);have h3:ndW x<=200001:=by unfold ndW;omega
   have h4:wsum (x::l)=ndW x+wsum l:=by simp[wsum]
   rw[h4,ZhL,Zi2];omega
 refine Zhc (this λn hn=>h n (ZhB hn)) (Zhh _ ?_);rw[ZhY];omega
def Z7h{g:Gr}(hg:g.sm):VC Sol.prog 21 false [grV g] (vi (words g)):=by
 refine Z9 Sol.func21 follows (by kernel_rfl) c21 rfl ?_;simp[p21];refine Z1 (Z2w hg) (by simp) ?_;cases hr:right g
 ·simp[words,hr]
 ·obtain⟨hg1,hg2,hg3⟩:=hg;simp;refine YQ (λt=>∃i:Nat,i<=g.nodes.length/\t=[.v (grV g),.m [.sl (g.nodes.map ndV),.sl (g.roots.map vi)],.v (vi 0),.v (.bool false),.v (vi (wsum (g.nodes.take i):Nat)),.v (vi i),.v (vi g.nodes.length),.no,.no,.v (.sl (g.nodes.map ndV))]) (λt=>match get t 5 with|.v (.int _ n)=>g.nodes.length-n.toNat|_=>0) ?_ ?_
  ·exact⟨0,by simp,by simp[wsum]⟩
  ·rintro t ⟨i,hi,rfl⟩;by_cases h:i<g.nodes.length
   ·have hx:g.nodes[i]?=some g.nodes[i]:=ZgJ h;obtain⟨h1,h2⟩:=hg3 _ (ZgZ h);have hs:=Z76 hx;have hle:=ZaZ hg3 (i+1);have hle2:g.nodes.length*200001<=100000*200001:=Zhh _ hg1;simp[h];generalize g.nodes[i]=x at*;have hw:=Z6 ((i:Int)+1) (by omega) (by omega);have hw1:=Z6 (1+(x.ptrs.length:Int)) (by omega) (by omega);have hw2:=Z6 (1+(x.ptrs.length:Int)+x.data.length) (by omega) (by omega);unfold ndW at hs;have hw3:=Z6 ((wsum (g.nodes.take i):Int)+(1+(x.ptrs.length:Int)+x.data.length)) (by omega) (by omega);simp[hw,hw1,hw2,hw3];exact⟨⟨i+1,by omega,by rw[hs];omega,by simp⟩,by omega⟩
   ·have:i=g.nodes.length:=by omega
    subst this;simp[words,hr]
@[simp] theorem Z9r{α β:Type}{f:α->β}{l:List α}:(l.map f).take l.length=l.map f:=Zhi (by simp)
end Vm
namespace Vm
open Go Go.Proofs
def qt{g:Gr}(hr:right g=true){x:Int}(hx:x∈g.roots)(h0:0<=x):x∈order g:=by
 rw[Jz hr,Ju];exact .inr ⟨by simp[hx],h0⟩
def Z7N{g:Gr}(hr:right g=true){x y:Int}(hx:x∈order g)(hy:y∈outs g x)(h0:0<=y):y∈order g:=by
 rw[Jz hr,Ju];exact .inr ⟨ZkC _ (Zij.2 ⟨x,hx,hy⟩),h0⟩
def LF{L:List Int}{x:Int}(h:x∈L):0<=at0 L x/\at0 L x<L.length/\L[(at0 L x).toNat]?=some x:=by
 unfold at0;cases hf:L.findIdx? (· ==x)with
 |none=>exact(Wl.1 hf h).elim
 |some i=>
  obtain⟨h1,h2,_⟩:=Zhx.1 hf;simp only[Zhq]at h2;refine⟨by simp,by simpa using h1,?_⟩;simp[h1,h2]
def Tq(g:Gr)(x:Int):Int:=if 0<=x then at0 (order g) x else x
def Z1u{g:Gr}(hr:right g=true):∀x∈order g,∀y∈order g,Tq g x=Tq g y->x=y:=by
 intro x hx y hy he;obtain⟨x0,_⟩:=(XM hr).2 x hx;obtain⟨y0,_⟩:=(XM hr).2 y hy;unfold Tq at he;rw[if_pos x0,if_pos y0]at he;have h1:=(LF hx).2.2;have h2:=(LF hy).2.2;rw[he,h2]at h1;cases h1;rfl
def Z1g{g:Gr}(hr:right g=true):right (Xd g)=true:=by
 have hgood:=XM hr
 have hin:∀ps:List Int,(∀p∈ps,-1<=p/\(0<=p->p∈order g))->∀q∈Xf (order g) ps,inR (Xd g).nodes.length q=true:=by
  intro ps hps q hq;obtain⟨p,hp,rfl⟩:=ZgX.1 hq;obtain⟨h1,h2⟩:=hps p hp;have hl:(Xd g).nodes.length=(order g).length:=by simp[Xd]
  rw[hl];simp only[inR,Zh1];split
  ·rename_i h0;have:=LF (h2 h0);omega
  ·omega
 simp only[right,ZgM,ZgT,Zh1];have hr':=hr;simp only[right,ZgM,ZgT,Zh1]at hr';refine⟨⟨by simpa[Xd,Xf]using hr'.1.1,λnd hnd=> ?_⟩,hin _ λp hp=>⟨(Vs hr p hp).1,λh0=>qt hr hp h0⟩⟩;simp only[Xd,ZgX]at hnd;obtain⟨x,hx,rfl⟩:=hnd;have hx':=hgood.2 x hx;have hlt:x.toNat<g.nodes.length:=by omega
 have h3:=hr'.1.2 _ (ZgZ hlt);simp only[TY,ZgM,Zh1,ZgT]at h3⊢;refine⟨by simpa[UY,hlt,Xf]using h3.1,?_⟩;exact hin _ λp hp=>⟨(yW hr x p hp).1,λh0=>Z7N hr hx hp h0⟩
end Vm
end
section

end
section
namespace Vm
open Go Go.Proofs
structure Fo where
 ob:Ob
 ad:Int
 sl:List Int
 deriving Inhabited
def foV(f:Fo):V:=.agg [vi f.ob.at_,vi f.ob.size,vi f.ob.ptrs,.bool f.ob.gone,vu f.ob.target,vu f.ad,.sl (f.sl.map vu)]
@[simp] theorem Zcw(f:Fo):(foV f).cells=[vi f.ob.at_,vi f.ob.size,vi f.ob.ptrs,.bool f.ob.gone,vu f.ob.target,vu f.ad,.sl (f.sl.map vu)]:=rfl
@[simp] theorem ZfB(f:Fo):szV (foV f) 7=some (foV f):=rfl
@[simp] theorem Zcp(f:Fo):RX (foV f) 0 7=some (foV f):=rfl
@[simp] theorem ZbF(f:Fo):fldV (foV f) 0=some (vi f.ob.at_):=rfl
@[simp] theorem ZbG(f:Fo):fldV (foV f) 1=some (vi f.ob.size):=rfl
@[simp] theorem ZbH(f:Fo):fldV (foV f) 2=some (vi f.ob.ptrs):=rfl
@[simp] theorem ZbI(f:Fo):fldV (foV f) 3=some (.bool f.ob.gone):=rfl
@[simp] theorem ZbJ(f:Fo):fldV (foV f) 4=some (vu f.ob.target):=rfl
@[simp] theorem ZbK(f:Fo):fldV (foV f) 5=some (vu f.ad):=rfl
@[simp] theorem ZbL(f:Fo):fldV (foV f) 6=some (.sl (f.sl.map vu)):=rfl
@[simp] theorem Zb8(l:List Fo):Yr 7 (l.map foV)=true:=XN λ_=>rfl
structure Vw where
 ns:List Fo
 nm:List (Int×Int)
 tm:List (Int×Int)
 deriving Inhabited
def Vw.put(s:Vw)(f:Fo):Vw:=if f.ob.gone then {s with tm:=putA s.tm f.ad f.ob.target}else {s with ns:=s.ns++[f],nm:=putA s.nm f.ad s.ns.length}
def Vw.toA(s:Vw)(w:Int):Int:=if w=0 then-1 else(getA s.nm ((getA s.tm (adr w).1).getD (adr w).1)).getD 0
def ndF(s:Vw)(f:Fo):Nd:=⟨(f.sl.take f.ob.ptrs.toNat).map s.toA,f.sl.drop f.ob.ptrs.toNat⟩
def Vw.gr(s:Vw)(roots:List Int):Gr:=⟨s.ns.map (ndF s),roots.map s.toA⟩
def Z8R(s:Vw){ws:List Int}(hl:ws.length<=1000000)(hu:∀w∈ws,U64 w):
  VCM Sol.prog 43 [.fz,.mem [.fz],.mem [.fz]] [.sl (ws.map vu),.agg [mpA vu s.tm],.agg [mpA vi s.nm]] (.tup [.sl ((ws.map s.toA).map vi),.agg [mpA vu s.tm],.agg [mpA vi s.nm]]):=by
 refine WY Sol.func43 follows (by kernel_rfl) cTo (by kernel_rfl) ?_;simp[pTo];refine YJ 5 ws.length (λi=>[(4,.v (.sl (((ws.take i).map s.toA).map vi))),(5,.v (vi i))]) (λ_=>True) (by simp) (by simp) trivial ?_;intro i hi _;by_cases h:i<ws.length
 ·have hx:ws[i]?=some ws[i]:=ZgJ h;have hU:=hu _ (ZgZ h);have hw:=Z6 ((i:Int)+1) (by omega) (by omega)
  have htk:List.take (i+1) (List.map (vi∘s.toA) ws)=List.take i (List.map (vi∘s.toA) ws)++[vi (s.toA ws[i])]:=by
   rw[ZhE,Zh2,hx];rfl
  have hlim:min i ws.length+1<=lim:=by unfold lim;omega
  simp[h,hw,htk,hlim];split
  ·rename_i h0;simp[Vw.toA,h0]
  ·rename_i h0;refine Z1 (ye hU) (by simp) ?_;have e1:=Z0H (f:=vu) (l:=s.tm) (k:=(adr ws[i]).1) (z:=.int .u64 0) (ok:=true);cases h1:getA s.tm (adr ws[i]).1 with
   |none=>
    rw[h1]at e1;have e2:=Z0H (f:=vi) (l:=s.nm) (k:=(adr ws[i]).1) (z:=.int .i64 0) (ok:=false);cases h2:getA s.nm (adr ws[i]).1 with
    |none=>rw[h2]at e2;simp[e1,e2,Vw.toA,h0,h1,h2,hw,hlim]
    |some t=>rw[h2]at e2;simp[e1,e2,Vw.toA,h0,h1,h2,hw,hlim]
   |some u=>
    rw[h1]at e1;have e2:=Z0H (f:=vi) (l:=s.nm) (k:=u) (z:=.int .i64 0) (ok:=false);cases h2:getA s.nm u with
    |none=>rw[h2]at e2;simp[e1,e2,Vw.toA,h0,h1,h2,hw,hlim]
    |some t=>rw[h2]at e2;simp[e1,e2,Vw.toA,h0,h1,h2,hw,hlim]
 ·have:i=ws.length:=by omega
  subst this;simp
def Zfx{s:St}{st:Vw}{f:Fo}{N R:St->Prop}{X:Nat->St->Prop}(h6:get s 6=.v (.sl (st.ns.map foV)))(h7:get s 7=.m [mpA vi st.nm])(h8:get s 8=.m [mpA vu st.tm])(h12:get s 12=.v (.tup [foV f,.bool true]))(h10:get s 10=.v (.bool true))(hl:st.ns.length<=4000000)
  (hN:∀s',get s' 6=.v (.sl ((st.put f).ns.map foV))->get s' 7=.m [mpA vi (st.put f).nm]->get s' 8=.m [mpA vu (st.put f).tm]->get s' 1=get s 1->get s' 2=get s 2->get s' 3=get s 3->N s'):wpS Sol.prog rD s N X R:=by
 have e1:=Jt (f:=vu) (l:=st.tm) (k:=f.ad) (x:=f.ob.target);have e2:=Jt (f:=vi) (l:=st.nm) (k:=f.ad) (x:=(st.ns.length:Int));have hlim:st.ns.length+1<=lim:=by unfold lim;omega
 cases hg:f.ob.gone
 ·simp[rD,h10,h12,Zo,hg,h6,h7,h8,e2,hlim];refine hN _ ?_ ?_ ?_ ?_ ?_ ?_ <;>simp[Vw.put,hg,h8,Zo]<;>simp[foV,hg]
 ·simp[rD,h10,h12,Zo,hg,h6,h7,h8,e1];refine hN _ ?_ ?_ ?_ ?_ ?_ ?_ <;>simp[Vw.put,hg,h6,h7,Zo]
def Zdp{s:St}{N R:St->Prop}{X:Nat->St->Prop}(h10:get s 10=.v (.bool false))(hX:X 0 s):wpS Sol.prog rD s N X R:=by
 simp[rD,h10,hX]
structure Vw.sm (st:Vw) (roots:List Int):Prop where
 n:st.ns.length<=100000
 f:∀f∈st.ns,0<=f.ob.ptrs/\f.ob.ptrs<=f.sl.length/\f.sl.length<=100000/\∀w∈f.sl,U64 w
 r:roots.length<=100000/\∀w∈roots,U64 w
def Vw.sm.gr{st:Vw}{roots:List Int}(h:st.sm roots):(st.gr roots).sm:=by
 refine⟨by simpa[Vw.gr]using h.n,by simpa[Vw.gr]using h.r.1,λn hn=> ?_⟩;simp only[Vw.gr,ZgX]at hn;obtain⟨f,hf,rfl⟩:=hn;obtain⟨_,_,h3,_⟩:=h.f f hf;simp only[ndF,Zhu,ZhY,ZiE];omega
def Zfw{s:St}{st:Vw}{roots:List Int}{b c t y sc:V}{x5 x6 x7 x8:V}{N R:St->Prop}{X:Nat->St->Prop}(hs:st.sm roots)(h1:get s 1=.m [b,c,t,y,sc,x5,x6,x7,x8,.sl (roots.map vu)])(h6:get s 6=.v (.sl (st.ns.map foV)))(h7:get s 7=.m [mpA vi st.nm])(h8:get s 8=.m [mpA vu st.tm])
  (hR:∀s',resV s' [(2,.ag 2),(3,.v)]=some (XD (st.gr roots))->R s'):wpS Sol.prog rC s N X R:=by
 simp[rC,h6,Zo];refine YJ 16 st.ns.length (λi=>[(15,.m [.sl (((st.ns.take i).map (ndF st)).map ndV),.sl []]),(16,.v (vi i))]) (λ_=>True) (by simp[Zo]) (by simp[Zo]) trivial ?_;intro i hi _;by_cases h:i<st.ns.length
 ·have hx:st.ns[i]?=some st.ns[i]:=ZgJ h;obtain⟨p0,p1,p2,p3⟩:=hs.f _ (ZgZ h);have hn:=hs.n;obtain⟨P,hP⟩:=Zh4 p0;have hPl:P<=st.ns[i].sl.length:=by omega
  have hw:=Z6 ((i:Int)+1) (by omega) (by omega)
  have htk:List.take (i+1) (List.map (ndV∘ndF st) st.ns)=List.take i (List.map (ndV∘ndF st) st.ns)++[ndV (ndF st st.ns[i])]:=by
   rw[ZhE,Zh2,hx];rfl
  have hto:=Z8R st (ws:=st.ns[i].sl.take P) (by simp;omega) λw hw=>p3 w (ZhB hw);have hlim:min i st.ns.length+1<=lim:=by unfold lim;omega
  simp[Zo,h,h1,h6,h7,h8,hP,slcV,hPl];rw[List.map_take]at hto;refine Ya hto ?_;simp[Zo,Z1p,hPl,hw,htk,hlim,hP,ndF,ndV]
 ·have:i=st.ns.length:=by omega
  subst this;simp[Zo,h1,h6,h7,h8];refine Ya (Z8R st (ws:=roots) (by have:=hs.r.1;omega) hs.r.2) ?_;simp;have hc:=Z7a hs.gr;simp only[Vw.gr,grV,Zj5]at hc;refine Z1 hc (by simp) ?_;have he:XD (st.gr roots)=XD {nodes:=List.map (ndF st) st.ns,roots:=List.map st.toA roots}:=rfl;rw[he]at hR;generalize ({nodes:=List.map (ndF st) st.ns,roots:=List.map st.toA roots}:Gr)=g at*;unfold XD at hR⊢;split
  ·rename_i hg;rw[if_pos hg]at hR;simp;refine hR _ ?_;simp[resV,Sa,JP,grV]
  ·rename_i hg;rw[if_neg hg]at hR;simp[noGr,grV];refine hR _ ?_;simp[resV,Sa,JP,noGr,grV]
end Vm
end
section
namespace Vm
open Go Go.Proofs Go.RowKit Go.Conc
def Zbk{t:Array Value}(h:t.size=71):t=#[t.getD 0 undef,t.getD 1 undef,t.getD 2 undef,t.getD 3 undef,t.getD 4 undef,t.getD 5 undef,t.getD 6 undef,t.getD 7 undef,t.getD 8 undef,t.getD 9 undef,t.getD 10 undef,t.getD 11 undef,t.getD 12 undef,t.getD 13 undef,t.getD 14 undef,t.getD 15 undef,t.getD 16 undef,t.getD 17 undef,t.getD 18 undef,t.getD 19 undef,t.getD 20 undef,t.getD 21 undef,t.getD 22 undef,t.getD 23 undef,t.getD 24 undef,t.getD 25 undef,t.getD 26 undef,t.getD 27 undef,t.getD 28 undef,t.getD 29 undef,t.getD 30 undef,t.getD 31 undef,t.getD 32 undef,t.getD 33 undef,t.getD 34 undef,t.getD 35 undef,t.getD 36 undef,t.getD 37 undef,t.getD 38 undef,t.getD 39 undef,t.getD 40 undef,t.getD 41 undef,t.getD 42 undef,t.getD 43 undef,t.getD 44 undef,t.getD 45 undef,t.getD 46 undef,t.getD 47 undef,t.getD 48 undef,t.getD 49 undef,t.getD 50 undef,t.getD 51 undef,t.getD 52 undef,t.getD 53 undef,t.getD 54 undef,t.getD 55 undef,t.getD 56 undef,t.getD 57 undef,t.getD 58 undef,t.getD 59 undef,t.getD 60 undef,t.getD 61 undef,t.getD 62 undef,t.getD 63 undef,t.getD 64 undef,t.getD 65 undef,t.getD 66 undef,t.getD 67 undef,t.getD 68 undef,t.getD 69 undef,t.getD 70 undef]:=by
 refine Zks (by simpa using h) λi h1 h2=> ?_;have h2':i<71:=by simpa using h2
 have e:t[i]=t.getD i undef:=by simp[Array.getD,h1]
 rw[e]
 revert h2
 match i,h2' with
 |0,_=>exactλ_=>rfl
 |1,_=>exactλ_=>rfl
 |2,_=>exactλ_=>rfl
 |3,_=>exactλ_=>rfl
 |4,_=>exactλ_=>rfl
 |5,_=>exactλ_=>rfl
 |6,_=>exactλ_=>rfl
 |7,_=>exactλ_=>rfl
 |8,_=>exactλ_=>rfl
 |9,_=>exactλ_=>rfl
 |10,_=>exactλ_=>rfl
 |11,_=>exactλ_=>rfl
 |12,_=>exactλ_=>rfl
 |13,_=>exactλ_=>rfl
 |14,_=>exactλ_=>rfl
 |15,_=>exactλ_=>rfl
 |16,_=>exactλ_=>rfl
 |17,_=>exactλ_=>rfl
 |18,_=>exactλ_=>rfl
 |19,_=>exactλ_=>rfl
 |20,_=>exactλ_=>rfl
 |21,_=>exactλ_=>rfl
 |22,_=>exactλ_=>rfl
 |23,_=>exactλ_=>rfl
 |24,_=>exactλ_=>rfl
 |25,_=>exactλ_=>rfl
 |26,_=>exactλ_=>rfl
 |27,_=>exactλ_=>rfl
 |28,_=>exactλ_=>rfl
 |29,_=>exactλ_=>rfl
 |30,_=>exactλ_=>rfl
 |31,_=>exactλ_=>rfl
 |32,_=>exactλ_=>rfl
 |33,_=>exactλ_=>rfl
 |34,_=>exactλ_=>rfl
 |35,_=>exactλ_=>rfl
 |36,_=>exactλ_=>rfl
 |37,_=>exactλ_=>rfl
 |38,_=>exactλ_=>rfl
 |39,_=>exactλ_=>rfl
 |40,_=>exactλ_=>rfl
 |41,_=>exactλ_=>rfl
 |42,_=>exactλ_=>rfl
 |43,_=>exactλ_=>rfl
 |44,_=>exactλ_=>rfl
 |45,_=>exactλ_=>rfl
 |46,_=>exactλ_=>rfl
 |47,_=>exactλ_=>rfl
 |48,_=>exactλ_=>rfl
 |49,_=>exactλ_=>rfl
 |50,_=>exactλ_=>rfl
 |51,_=>exactλ_=>rfl
 |52,_=>exactλ_=>rfl
 |53,_=>exactλ_=>rfl
 |54,_=>exactλ_=>rfl
 |55,_=>exactλ_=>rfl
 |56,_=>exactλ_=>rfl
 |57,_=>exactλ_=>rfl
 |58,_=>exactλ_=>rfl
 |59,_=>exactλ_=>rfl
 |60,_=>exactλ_=>rfl
 |61,_=>exactλ_=>rfl
 |62,_=>exactλ_=>rfl
 |63,_=>exactλ_=>rfl
 |64,_=>exactλ_=>rfl
 |65,_=>exactλ_=>rfl
 |66,_=>exactλ_=>rfl
 |67,_=>exactλ_=>rfl
 |68,_=>exactλ_=>rfl
 |69,_=>exactλ_=>rfl
 |70,_=>exactλ_=>rfl
 |i+71,h=>omega
def sliV(v:Value)(lo n:Nat):Value:=match v with
 |.slice (some ⟨b,o,q⟩) _ c=>.slice (some (if c=lo then⟨b,o,q⟩else⟨b,o+lo,q⟩)) n (c-lo)
 |v=>v
def fvV(h:Hp)(x:Nat->Value)(p:Nat)(o:Ob):Value:=.agg #[.int .i64 o.at_,.int .i64 o.size,.int .i64 o.ptrs,.bool o.gone,.int .u64 o.target,.int .u64 (ZI (layH h) ((p:Int)+1) o.at_).1,sliV (x p) (o.at_+1).toNat o.size.toNat]
def obP(h:Hp)(p:Nat):List Ob:=(Q0 h ((p:Int)+1)).1
def fvs(h:Hp)(x:Nat->Value):Nat->Nat->List Value
 |0,_=>[]
 |n+1,p=>(obP h p).map (fvV h x p)++fvs h x n (p+1)
noncomputable def seC:Code:=match Try.f42.body with|some c=>c|none=>.skip
noncomputable def clOps:Array Oper:=Z6a (cAt seC [1,1,1])
def AtCl(c:Nat)(b:Frame)(cs0:List Frame)(fr:Frame)(cs:List Frame)(w:World):Prop:=cs=cs0/\∃a,fr=b.at a [.inRegion clOps [1]]/\a.tmps[70]?=some (.chan (some c))/\a.defers=[]
def Zdq{w:World}{G:Nat->Prop}{h:Hp}{x:Nat->Value}(hr:∀j,j<5->Rd w G (.sl ((lsH h j).map vu)) (x j)):Rd w G (hpV h) (hpA h x):=by
 refine .agg _ _ rfl (by simp[V.one]) ?_;intro i y hy
 match i,hy with
 |0,hy=>cases hy;exact .int _ _
 |1,hy=>cases hy;exact .int _ _
 |2,hy=>cases hy;exact .int _ _
 |3,hy=>cases hy;exact .bool _
 |4,hy=>cases hy;exact .int _ _
 |5,hy=>cases hy;exact hr 0 (by omega)
 |6,hy=>cases hy;exact hr 1 (by omega)
 |7,hy=>cases hy;exact hr 2 (by omega)
 |8,hy=>cases hy;exact hr 3 (by omega)
 |9,hy=>cases hy;exact hr 4 (by omega)
def Z2T{w:World}{G:Nat->Prop}{h:Hp}(hh:h.ok){x:Nat->Value}(hG:∀b,G b->b<w.heap.size)(hr:∀j,j<5->Rd w G (.sl ((lsH h j).map vu)) (x j))(p:Int):
  Calls Sol.prog 27 #[hpA h x,.int .i64 p] w λe w'=>∃s,e=.returned (.tuple #[s,.int .i64 (Q0 h p).2])/\Below w.heap.size w w'/\Rd w' (λb=>b<w'.heap.size) (.sl ((Q0 h p).1.map obV)) s:=by
 refine Zkb ((ZeK hh (k:=p)).2 w G _ hG rfl ?_) ?_
 ·intro i y hy
  match i,hy with
  |0,hy=>cases hy;exact Zdq hr
  |1,hy=>cases hy;exact .int _ _
 ·rintro e w' ⟨v,rfl,hb,hv⟩;cases hv with
  |tup _ vs h1 h2=>
   have e1:=h2 0 _ rfl;have e2:=Vn (h2 1 _ rfl);simp only[ZhL,Ziy]at h1;refine⟨vs.getD 0 undef,?_,hb,e1.mono λb hb'=> ?_⟩
   ·congr 2;refine Zks (by simpa using h1) λi q1 q2=> ?_;have:i=0\/i=1:=by simp at q2;omega
    rcases this with rfl|rfl
    ·simp[Array.getD,q1]
    ·simp[Array.getD,q1]at e2;simpa using e2
   ·rcases hb' with ⟨_,hb'⟩|hb'
    ·exact ZgV (hG b hb') hb.size
    ·exact hb'.2
def u71(a b:Value):(#[a,b]:Array Value)++Array.replicate (71- (#[a,b]:Array Value).size) undef=#[a,b,undef,undef,undef,undef,undef,undef,undef,undef,undef,undef,undef,undef,undef,undef,undef,undef,undef,undef,undef,undef,undef,undef,undef,undef,undef,undef,undef,undef,undef,undef,undef,undef,undef,undef,undef,undef,undef,undef,undef,undef,undef,undef,undef,undef,undef,undef,undef,undef,undef,undef,undef,undef,undef,undef,undef,undef,undef,undef,undef,undef,undef,undef,undef,undef,undef,undef,undef,undef,undef]:=by kernel_rfl
structure SSt (w:World) (h:Hp) (x:Nat->Value) (b4:Nat) (W:World):Prop where
 bel:Below w.heap.size w W
 c2:W.heap[w.heap.size]?=some (.cells #[.int .u64 h.base,.int .i64 h.cap,.int .i64 h.to,.bool h.cycle,.int .i64 h.scan,x 0,x 1,x 2,x 3,x 4] 37 (0,0))
 c4:W.heap[b4]?=some (.cells #[.int .u64 h.base,.int .i64 h.cap,.int .i64 h.to,.int .i64 h.low.length,.int .i64 h.high.length,.int .i64 h.old.length,.int .i64 h.far.length] 69 (0,0))
def SSt.below{w W W':World}{h:Hp}{x:Nat->Value}{b4:Nat}(s:SSt w h x b4 W)(hb:Below W.heap.size W W'):SSt w h x b4 W':=
 ⟨s.bel.trans (hb.mono s.bel.size),(hb.block _ (ZH s.c2)).trans s.c2,(hb.block _ (ZH s.c4)).trans s.c4⟩
def jb{W:World}{G:Nat->Prop}{l:List Int}{y:Value}(h:Rd W G (.sl (l.map vu)) y):∃a c,y=.slice a l.length c:=by
 generalize hL:l.map vu=L at h;have hl:L.length=l.length:=by rw[<-hL,Zhu]
 cases h with
 |nil a c h1=>exact⟨_,_,by rw[<-hl];rfl⟩
 |sl _ b o cap kk vs h1 h2=>exact⟨_,_,by rw[hl]⟩
def ZaI{P:Program}{W:World}{T el:TypeId}(hT:P.underlying T=some (.slice el))(hz:(Go.sizeOf el).run P W=.ok 1 W){b o len cap:Nat}{lo hi:Int}(h1:0<=lo)(h2:lo<=hi)(h3:hi<=cap):
  (Instr.slice T (.slice (some ⟨b,o,none⟩) len cap) (some (.int .i64 lo)) (some (.int .i64 hi)) none).run P W=.ok (sliV (.slice (some ⟨b,o,none⟩) len cap) lo.toNat (hi-lo).toNat) W:=by
 obtain⟨l,rfl⟩:=Zh4 h1;obtain⟨k,rfl⟩:=Zh4 (show 0<=hi by omega);have h4:l<=k:=by omega
 have h5:k<=cap:=by omega
 have h6:((k:Int) - (l:Int)).toNat=k-l:=by omega
 simp[Instr.slice,Instr.sliceBounds,Instr.sliceBound,asIntOf,Zhk hT,hz,h4,h5,h6,sliV,Addr.add];by_cases h8:cap=l
 ·simp[h8]
 ·simp[h8]
def Zdt{W:World}{G:Nat->Prop}{l:List Int}{y:Value}(h:Rd W G (.sl (l.map vu)) y)(h0:0<l.length){a:Option Addr}{n k:Nat}(e:y=.slice a n k):∃b o,a=some ⟨b,o,none⟩/\l.length<=k/\k<=maxLen:=by
 generalize hL:l.map vu=L at h;have hl:L.length=l.length:=by rw[<-hL,Zhu]
 cases h with
 |nil a c h1=>simp at hl;omega
 |sl _ b o cap kk vs h1 h2=>cases e;exact⟨b,o,rfl,by omega,h2⟩
def Zdr{W:World}{G:Nat->Prop}{l:List Ob}{y:Value}(h:Rd W G (.sl (l.map obV)) y):∃a c,y=.slice a l.length c:=by
 generalize hL:l.map obV=L at h;have hl:L.length=l.length:=by rw[<-hL,Zhu]
 cases h with
 |nil a c h1=>exact⟨_,_,by rw[<-hl];rfl⟩
 |sl _ b o cap kk vs h1 h2=>exact⟨_,_,by rw[hl]⟩
def Z2A:Try.f42.body=some seC:=by kernel_rfl
def ZcH{Q:Program}{c:Nat}{Post:Frame->List Frame->World->Prop}{es:List Ev}{fn:Func}{code code2:Code}{a:Act}{b:Frame}{w:World}{cs:List Frame}(h1:fn.body=some code)(h2:fn.body=some code2)(h:LS Q c Post es (b.at a [.code code]) cs w):LS Q c Post es (b.at a [.code code2]) cs w:=by
 rw[h1]at h2;cases h2;exact h
def ZaK(b:Frame)(cs0:List Frame)(w:World)(h:Hp)(hh:h.ok)(x:Nat->Value)(c:Nat)(G:Nat->Prop)(hG:∀b,G b->b<w.heap.size)(hr:∀j,j<5->Rd w G (.sl ((lsH h j).map vu)) (x j))
  (hob:∀p,p<4->(obP h p).length<=1000000/\∀o∈obP h p,0<=o.at_/\0<=o.size/\o.at_+1+o.size<=(lsH h p).length):
  LS Sol.prog c (AtCl c b cs0) ((fvs h x 4 0).map .send) (b.at {tmps:=#[hpA h x,.chan (some c)]++Array.replicate (71- (#[hpA h x,.chan (some c)]:Array Value).size) undef,defers:=[]} [.code seC]) cs0 w:=by
 obtain⟨a0,k0,e0⟩:=jb (hr 0 (by omega));obtain⟨a1,k1,e1⟩:=jb (hr 1 (by omega));obtain⟨a2,k2,e2⟩:=jb (hr 2 (by omega));obtain⟨a3,k3,e3⟩:=jb (hr 3 (by omega));have HE:=Zhg (And.intro e0 (And.intro e1 (And.intro e2 e3)))
 have HL:∀W,Below w.heap.size w W->Calls Sol.prog 64 #[hpA h x] W λe w'=>e=.returned (lyA (layH h))/\Below W.heap.size W w':=λW hW=>
  y8 (G:=G) (λb hb=>ZgV (hG b hb) hW.size) λj hj=>(hr j hj).keep (λb hb=>hW.block b (hG b hb)) λ_ q=>q
 have HO:∀W,Below w.heap.size w W->∀p,Calls Sol.prog 27 #[hpA h x,.int .i64 p] W λe w'=>∃s,e=.returned (.tuple #[s,.int .i64 (Q0 h p).2])/\Below W.heap.size W w'/\Rd w' (λb=>b<w'.heap.size) (.sl ((Q0 h p).1.map obV)) s:=λW hW p=>
  Z2T hh (G:=G) (λb hb=>ZgV (hG b hb) hW.size) (λj hj=>(hr j hj).keep (λb hb=>hW.block b (hG b hb)) λ_ q=>q) p
 unfold hpA at HL HO;rw[e0,e1,e2,e3]at HL HO;have HL:=Zhg HL;have HO:=Zhg HO;have HF:=Zhg (And.intro hG hr);have HB:=Zhg hob;clear hG hr hob;unfold hpA;rw[e0,e1,e2,e3];refine ZcH (fn:=Try.f42) rfl Z2A ?_;rw[u71];refine LS.two (LS.regK λK hK=> ?_);go_wp2;obtain⟨w2,hw2⟩:∃w2,w2=w.alloc (.cells #[.int .u64 h.base,.int .i64 h.cap,.int .i64 h.to,.bool h.cycle,.int .i64 h.scan,.slice a0 (lsH h 0).length k0,.slice a1 (lsH h 1).length k1,.slice a2 (lsH h 2).length k2,.slice a3 (lsH h 3).length k3,x 4] 37):=⟨_,rfl⟩;rw[<-hw2];have b2:w2.heap[w.heap.size]?=some (.cells #[.int .u64 h.base,.int .i64 h.cap,.int .i64 h.to,.bool h.cycle,.int .i64 h.scan,.slice a0 (lsH h 0).length k0,.slice a1 (lsH h 1).length k1,.slice a2 (lsH h 2).length k2,.slice a3 (lsH h 3).length k3,x 4] 37 (0,0)):=by rw[hw2];exact Zhv ..
 have z2:w2.heap.size=w.heap.size+1:=by rw[hw2];simp
 have q2:Below w.heap.size w w2:=by rw[hw2];exact(ZhA _ _).alloc (ZgP _) _
 clear hw2;have y2:∀j,w2.cell? ⟨w.heap.size,j,none⟩=(#[.int .u64 h.base,.int .i64 h.cap,.int .i64 h.to,.bool h.cycle,.int .i64 h.scan,.slice a0 (lsH h 0).length k0,.slice a1 (lsH h 1).length k1,.slice a2 (lsH h 2).length k2,.slice a3 (lsH h 3).length k3,x 4]:Array Value)[j]? :=λj=>Zh3 _ _ _ _ _ _ b2;have HS:=Zhg (And.intro b2 (And.intro z2 q2));clear b2 z2 q2;refine LS.two (LS.regK λK hK=> ?_)
 go_wp2_with (first
  |(go_at_call 64;refine(HL.out _ HS.out.2.2).mono ?_;rintro e w3 ⟨rfl,hb3⟩;unfold lyA layH;dsimp only;have HB3:=Zhg hb3;clear hb3))
 obtain⟨W,hW⟩:∃W,W=w3.alloc (.cells #[.int .u64 h.base,.int .i64 h.cap,.int .i64 h.to,.int .i64 h.low.length,.int .i64 h.high.length,.int .i64 h.old.length,.int .i64 h.far.length] 69):=⟨_,rfl⟩;obtain⟨b4,hb4⟩:∃b4,b4=w3.heap.size:=⟨_,rfl⟩;rw[<-hW,<-hb4]
 have hS:SSt w h x b4 W:=by
  have hz:=HB3.out.size;rw[hW,hb4];exact⟨(HS.out.2.2.trans (HB3.out.mono HS.out.2.2.size)).alloc (by have:=HS.out.2.2.size;omega) _,by rw[ZhQ _ _ _ (by have:=ZH HS.out.1;omega)];rw[e0,e1,e2,e3];exact(HB3.out.block _ (ZH HS.out.1)).trans HS.out.1,Zhv ..⟩
 clear hW hb4 HB3 HS y2 e0 e1 e2 e3;have y2:∀j,W.cell? ⟨w.heap.size,j,none⟩=(#[.int .u64 h.base,.int .i64 h.cap,.int .i64 h.to,.bool h.cycle,.int .i64 h.scan,.slice a0 (lsH h 0).length k0,.slice a1 (lsH h 1).length k1,.slice a2 (lsH h 2).length k2,.slice a3 (lsH h 3).length k3,x 4]:Array Value)[j]? :=λj=>by have:=hS.c2;rw[HE.out.1,HE.out.2.1,HE.out.2.2.1,HE.out.2.2.2]at this;exact Zh3 _ _ _ _ _ _ this
 refine LS.two (LS.two (LS.regK λK hK=> ?_));go_wp2
 refine LS.block (LS.loopI (λn es a W=>∃(p:Nat) (t:Array Value),p+n=4/\es=(fvs h x n p).map .send/\a=⟨t,[]⟩/\t.size=71/\t.getD 1 undef=.chan (some c)/\t.getD 2 undef=.pointer (some ⟨w.heap.size,0,none⟩)/\t.getD 4 undef=.pointer (some ⟨b4,0,none⟩)/\
  t.getD 24 undef=.agg #[.slice a0 (lsH h 0).length k0,.slice a1 (lsH h 1).length k1,.slice a2 (lsH h 2).length k2,.slice a3 (lsH h 3).length k3]/\t.getD 25 undef=.int .i64 p/\SSt w h x b4 W) (n:=4) ⟨0,_,rfl,rfl,rfl,rfl,rfl,rfl,rfl,rfl,rfl,hS⟩ ?_)
 clear hS y2 W;rintro n es a W ⟨p,t,hp,rfl,rfl,hsz,t1,t2,t4,t24,t25,hS⟩ ih;have IH:=Zhg ih;clear ih;rw[Zbk hsz,t1,t2,t4,t24,t25];obtain⟨g,hg⟩:∃g:Nat->Value,∀i,t.getD i undef=g i:=⟨_,λ_=>rfl⟩;simp only[hg];clear hg t1 t2 t4 t24 t25 hsz t;have y2:∀j,W.cell? ⟨w.heap.size,j,none⟩=(#[.int .u64 h.base,.int .i64 h.cap,.int .i64 h.to,.bool h.cycle,.int .i64 h.scan,.slice a0 (lsH h 0).length k0,.slice a1 (lsH h 1).length k1,.slice a2 (lsH h 2).length k2,.slice a3 (lsH h 3).length k3,x 4]:Array Value)[j]? :=λj=>by have:=hS.c2;rw[HE.out.1,HE.out.2.1,HE.out.2.2.1,HE.out.2.2.2]at this;exact Zh3 _ _ _ _ _ _ this
 cases n with
 |zero=>
  have hpI:((p:Int)<4)=False:=ZkH (by omega);refine LS.two (LS.regK λK hK=> ?_);go_wp2;refine LS.two (LS.condF rfl (LS.exit rfl (LS.region ?_)));refine LS.value (i:=0) (l:=[1]) rfl rfl rfl ?_;exact LS.now ⟨rfl,_,rfl,rfl,rfl⟩
 |succ n=>
  have hpI:((p:Int)<4)=True:=eq_true (by omega);have hp4:p<4:=by omega
  refine LS.two (LS.regK λK hK=> ?_);go_wp2;refine LS.two (LS.condT rfl (LS.skip (LS.two (LS.block (LS.two (LS.regK λK hK=> ?_))))));obtain⟨ap,kp,ep⟩:=jb (HF.out.2 p (by omega))
  have hidx:∀W,(Instr.index 135 (.agg #[.slice a0 (lsH h 0).length k0,.slice a1 (lsH h 1).length k1,.slice a2 (lsH h 2).length k2,.slice a3 (lsH h 3).length k3]) (.int .i64 (p:Int))).run Sol.prog W=.ok (.slice ap (lsH h p).length kp) W:=by
   intro W;have hT:Sol.prog.underlying 135=some (.array 4 35):=by kernel_rfl
   have:p=0\/p=1\/p=2\/p=3:=by omega
   rw[<-ep];rcases this with rfl|rfl|rfl|rfl
   ·rw[HE.out.1];simp[Instr.index,asIntOf,Zhk hT,part]
   ·rw[HE.out.2.1];simp[Instr.index,asIntOf,Zhk hT,part]
   ·rw[HE.out.2.2.1];simp[Instr.index,asIntOf,Zhk hT,part]
   ·rw[HE.out.2.2.2];simp[Instr.index,asIntOf,Zhk hT,part]
  have EP:=Zhg ep;clear ep;go_wp2;clear hidx;have hw1:=Z6 ((p:Int)+1) (by omega) (by omega);refine LS.two (LS.regK λK hK=> ?_);go_wp2;have HS:=Zhg hS;clear hS;refine LS.two (LS.regK λK hK=> ?_)
  go_wp2_with (first
   |(go_at_call 27;refine(HO.out _ HS.out.bel _).mono ?_;rintro e W5 ⟨s5,rfl,hb5,hr5⟩;obtain⟨a5,k5,rfl⟩:=Zdr hr5;have HB5:=Zhg (And.intro hb5 hr5);clear hb5 hr5))
  refine LS.two (LS.regK λK hK=> ?_);go_wp2;have hS:=HS.out.below HB5.out.1;have hr5:=HB5.out.2;clear HS HB5 y2 W hpI;rename_i W5;rw[show(Q0 h ((p:Int)+1)).1=obP h p from rfl]at hr5⊢;have hobs:=Z64 hr5 λb hb=>hb;obtain⟨hol,hoo⟩:=HB.out p hp4;have hfv:fvs h x (n+1) p=(obP h p).map (fvV h x p)++fvs h x n (p+1):=rfl;rw[hfv];clear hfv hr5;have HX:=Zhg (And.intro hobs (And.intro hol hoo));clear hobs hoo
  refine LS.block (LS.loopI (λm es a W=>∃(i:Nat) (t:Array Value),i+m=(obP h p).length/\es=(((obP h p).drop i).map (fvV h x p)++fvs h x n (p+1)).map .send/\a=⟨t,[]⟩/\t.size=71/\t.getD 1 undef=.chan (some c)/\t.getD 2 undef=.pointer (some ⟨w.heap.size,0,none⟩)/\t.getD 4 undef=.pointer (some ⟨b4,0,none⟩)/\
   t.getD 6 undef=.slice ap (lsH h p).length kp/\t.getD 7 undef=.int .i64 ((p:Int)+1)/\t.getD 24 undef=.agg #[.slice a0 (lsH h 0).length k0,.slice a1 (lsH h 1).length k1,.slice a2 (lsH h 2).length k2,.slice a3 (lsH h 3).length k3]/\t.getD 25 undef=.int .i64 p/\t.getD 37 undef=.slice a5 (obP h p).length k5/\t.getD 38 undef=.int .i64 (obP h p).length/\t.getD 39 undef=.int .i64 i/\
   SSt w h x b4 W/\Below W5.heap.size W5 W) (n:=(obP h p).length) ⟨0,_,by omega,rfl,rfl,rfl,rfl,rfl,rfl,rfl,rfl,rfl,rfl,rfl,rfl,rfl,hS,ZhA _ _⟩ ?_)
  clear hS g hw1;rintro m es a W ⟨i,t,hi,rfl,rfl,hsz,t1,t2,t4,t6,t7,t24,t25,t37,t38,t39,hS,hB5⟩ ih;have IH2:=Zhg ih;clear ih;rw[Zbk hsz,t1,t2,t4,t6,t7,t24,t25,t37,t38,t39];obtain⟨g,hg⟩:∃g:Nat->Value,∀i,t.getD i undef=g i:=⟨_,λ_=>rfl⟩;simp only[hg];clear hg t1 t2 t4 t6 t7 t24 t25 t37 t38 t39 hsz t;cases m with
  |zero=>
   have hiI:((i:Int)< ((obP h p).length:Int))=False:=ZkH (by omega);refine LS.two (LS.regK λK hK=> ?_);go_wp2;refine LS.two (LS.condF rfl (LS.exit rfl (LS.inBlock ?_)));have hw1:=Z6 ((p:Int)+1) (by omega) (by omega);have hdr:(obP h p).drop i=[]:=Zko (by omega);rw[hdr];clear hdr hiI;refine LS.regK λK hK=> ?_;go_wp2;exact IH.out n _ _ _ (by omega) ⟨p+1,_,by omega,rfl,rfl,rfl,rfl,rfl,rfl,rfl,by simp,hS⟩
  |succ m=>
   have hil:i< (obP h p).length:=by omega
   obtain⟨o,ho⟩:∃o,(obP h p)[i]?=some o:=⟨_,ZgJ hil⟩;have hiI:((i:Int)< ((obP h p).length:Int))=True:=eq_true (by omega);obtain⟨g5,o5,cap5,e5,hc5,hm5,hg5,hcell⟩|⟨a9,c9,e9,e10⟩:=HX.out.1
   case inr=>rw[e10]at hil;simp at hil
   injection e5 with e5 _ e6;subst e5;subst e6;obtain⟨v0,v1,v2,v3,v4⟩:=hcell i o ho;have hBb:=hB5.block _ hg5;have y0:W.cell? ⟨g5,o5+i*5,none⟩=some (.int .i64 o.at_):=by rw[ZhG hBb];exact v0
   have y1:W.cell? ⟨g5,o5+i*5+1,none⟩=some (.int .i64 o.size):=by rw[ZhG hBb];exact v1
   have y2:W.cell? ⟨g5,o5+i*5+2,none⟩=some (.int .i64 o.ptrs):=by rw[ZhG hBb];exact v2
   have y3:W.cell? ⟨g5,o5+i*5+3,none⟩=some (.bool o.gone):=by rw[ZhG hBb];exact v3
   have y4:W.cell? ⟨g5,o5+i*5+4,none⟩=some (.int .u64 o.target):=by rw[ZhG hBb];exact v4
   clear v0 v1 v2 v3 v4 hBb hcell;have HC:=Zhg hc5;clear hc5;refine LS.two (LS.regK λK hK=> ?_);go_wp2;refine LS.two (LS.condT rfl (LS.skip (LS.two (LS.block (LS.two (LS.regK λK hK=> ?_))))));go_wp2;obtain⟨W6,hW6⟩:∃W6,W6=W.alloc (.cells #[.int .i64 o.at_,.int .i64 o.size,.int .i64 o.ptrs,.bool o.gone,.int .u64 o.target] 59):=⟨_,rfl⟩;obtain⟨bo,hbo⟩:∃bo,bo=W.heap.size:=⟨_,rfl⟩;rw[<-hW6,<-hbo];have hb6:Below W.heap.size W W6:=by rw[hW6];exact(ZhA _ _).alloc (ZgP _) _
   have q6:W6.heap[bo]?=some (.cells #[.int .i64 o.at_,.int .i64 o.size,.int .i64 o.ptrs,.bool o.gone,.int .u64 o.target] 59 (0,0)):=by rw[hW6,hbo];exact Zhv ..
   have hS6:=hS.below hb6;have hB6:=hB5.trans (hb6.mono hB5.size);clear hW6 hbo hb6 hS hB5 y0 y1 y2 y3 y4 W;have z4:∀j,W6.cell? ⟨b4,j,none⟩=(#[.int .u64 h.base,.int .i64 h.cap,.int .i64 h.to,.int .i64 h.low.length,.int .i64 h.high.length,.int .i64 h.old.length,.int .i64 h.far.length]:Array Value)[j]? :=λj=>Zh3 _ _ _ _ _ _ hS6.c4;have zo:∀j,W6.cell? ⟨bo,j,none⟩=(#[.int .i64 o.at_,.int .i64 o.size,.int .i64 o.ptrs,.bool o.gone,.int .u64 o.target]:Array Value)[j]? :=λj=>Zh3 _ _ _ _ _ _ q6;have HS:=Zhg (And.intro hS6 (And.intro hB6 q6));clear hS6 hB6 q6;have HA:=Zhg λW=>jR hh.lay ((p:Int)+1) o.at_ W;unfold lyA layH at HA;dsimp only at HA;refine LS.two (LS.regK λK hK=> ?_)
   go_wp2_with (first
    |(go_at_call 75;refine(HA.out _).mono ?_;rintro e W7 ⟨rfl,hb7⟩;have HB7:=Zhg hb7;clear hb7))
   have hS:=HS.out.1.below HB7.out;have hB5:=HS.out.2.1.trans (HB7.out.mono HS.out.2.1.size);have q7:=(HB7.out.block _ (ZH HS.out.2.2)).trans HS.out.2.2;clear z4 zo HS HB7 HA;rename_i W7;clear W6;obtain⟨ha0,hz0,hle⟩:=HX.out.2.2 o (ZgQ ho);have hpos:0< (lsH h p).length:=by omega
   obtain⟨bw,ow,ew,hcw,hmw⟩:=Zdt (HF.out.2 p (by omega)) hpos EP.out;subst ew
   have hdr:(obP h p).drop i=o::(obP h p).drop (i+1):=by
    obtain⟨h1,rfl⟩:=ZgL.1 ho;exact ZhF h1
   rw[hdr];rw[show(((o::(obP h p).drop (i+1)).map (fvV h x p)++fvs h x n (p+1)).map Ev.send)=.send (fvV h x p o)::(((obP h p).drop (i+1)).map (fvV h x p)++fvs h x n (p+1)).map .send from rfl];clear hdr ho hiI;have zo:∀j,W7.drew.cell? ⟨bo,j,none⟩=(#[.int .i64 o.at_,.int .i64 o.size,.int .i64 o.ptrs,.bool o.gone,.int .u64 o.target]:Array Value)[j]? :=λj=>Zh3 _ _ _ _ _ _ (show W7.drew.heap[bo]?=_ from q7);have hl6:=Zac hh p;have hw1:=Z6 (o.at_+1) (by omega) (by omega);have hw2:=Z6 (o.at_+1+o.size) (by omega) (by omega);have hs1:(0:Int)<=o.at_+1:=by omega
   have hs2:o.at_+1<=o.at_+1+o.size:=by omega
   have hs3:o.at_+1+o.size<=(kp:Int):=by omega
   obtain⟨av,nv,cv,hSV⟩:∃av nv cv,.slice av nv cv=sliV (x p) (o.at_+1).toNat o.size.toNat:=by rw[EP.out];exact⟨_,_,_,rfl⟩
   have hsl:∀W,(Instr.slice 35 (.slice (some ⟨bw,ow,none⟩) (lsH h p).length kp) (some (.int .i64 (o.at_+1))) (some (.int .i64 (o.at_+1+o.size))) none).run Sol.prog W=.ok (.slice av nv cv) W:=by
    intro W;have hT:Sol.prog.underlying 35=some (.slice 24):=by kernel_rfl
    rw[hSV,EP.out,ZaI hT (by simp) hs1 hs2 hs3,show o.at_+1+o.size- (o.at_+1)=o.size by omega]
   clear hs1 hs2 hs3 zo;have zo:∀j,W7.drew.cell? ⟨bo,j,none⟩=(#[.int .i64 o.at_,.int .i64 o.size,.int .i64 o.ptrs,.bool o.gone,.int .u64 o.target]:Array Value)[j]? :=λj=>Zh3 _ _ _ _ _ _ (show W7.drew.heap[bo]?=_ from q7);have HV:=Zhg hSV;clear hSV;have HS:=Zhg (And.intro hS hB5);clear hS hB5 q7;refine LS.send (n:=16) follows (by kernel_rfl) rfl rfl rfl rfl rfl rfl ?_;simp only[ZjT,ZkK];change wpStill Sol.prog _ W7.drew _ _ _
   repeat still_step
   refine wpStill_nil ⟨rfl,?_,?_⟩
   ·unfold fvV;rw[<-HV.out];rfl
   ·refine LS.inBlock ?_;have hw3:=Z6 ((i:Int)+1) (by omega) (by omega);refine LS.regK λK hK=> ?_;go_wp2;exact IH2.out m _ _ _ (by omega) ⟨i+1,_,by omega,rfl,rfl,rfl,rfl,rfl,rfl,rfl,rfl,rfl,rfl,rfl,rfl,by simp,SSt.below HS.out.1 (ZhA _ _).drew,HS.out.2.drew⟩
end Vm
end
section
namespace Vm
open Go Go.Proofs Go.Conc
open Go.RowKit (Below)
section
section
variable {c:Ctx}{B:Nat}{G Kf:Nat->Prop}{s:St}{a:Act}{w w0:World}{h:GH}{S:SS}{n0:Nat}{fix:List Nat}{T0:Array Value}{t:Nat}{v:Value}{x:V}
theorem Yj{p:Nat}(hp:p≠t):(a.put (some t) v).tmps[p]?=a.tmps[p]? :=by
 simp[Act.put,Zho,ZiO hp]
theorem US(ht:t<a.tmps.size):(a.put (some t) v).tmps[t]?=some v:=by
 simp[Act.put,Zho,ht]
theorem Xr:(a.put (some t) v).tmps.size=a.tmps.size:=by simp[Act.put]
theorem ZaC{p:Nat}{k:OT}{u:Value}{T1 T2:Nat->Option Value}(hk:RelK c.P B s w h T1 p u (KU c p k)):RelK c.P B s w h T2 p u (KU c p k):=by
 cases k<;>exact hk
theorem RelG.set(hr:RelG c B G s a w h (Y0 c S))(hS:S.at t=none):RelG c B G s (a.put (some t) v) w h (Y0 c S):=by
 refine⟨hr.ok,λp hp hk=> ?_,λp hp=> ?_⟩
 ·by_cases e:p=t
  ·subst e;rw[Zk,hS]at hk;cases hk
  ·obtain⟨u,hu,hrel⟩:=hr.at_ p hp hk;refine⟨u,by simp_all[Yj],?_⟩;rw[Zk]at hrel⊢;cases e2:S.at p with
   |none=>rw[Zk,e2]at hk;cases hk
   |some k=>grind [ZaC]
 ·refine absurd ?_ hp;rw[Zk];cases S.at p<;>exact Y4 _
theorem RelS.set(hr:RelS Kf fix T0 c B G w0 n0 s a w S)(hS:S.at t=none):RelS Kf fix (a.put (some t) v).tmps c B G w n0 s (a.put (some t) v) w S:=by
 obtain⟨⟨h,h1,h2⟩,h3,h4,h5,h6⟩:=hr;exact⟨⟨h,h1.set hS,h2⟩,h3,.refl _ _,by grind [Xr],h6⟩
theorem RelS.base(hr:RelS Kf fix T0 c B G w0 n0 s a w S):RelS Kf fix a.tmps c B G w n0 s a w S:=by
 obtain⟨h1,h3,h4,h5⟩:=hr;exact⟨h1,h3,.refl _ _,h5⟩
theorem RelS.put(hr:RelS Kf fix T0 c B G w0 n0 s a w S)(hS:S.at t=none)(hix:∀y∈S,c.ix y.1≠c.ix t)(hlt:t<n0)(hv:Rd w G x v):RelS Kf fix (a.put (some t) v).tmps c B G w n0 (putS s (c.ix t) (.v x)) (a.put (some t) v) w ((t,.fz)::S):=by
 obtain⟨⟨h,h1,h2⟩,h3,h4,h5,h6⟩:=hr;refine⟨⟨h,⟨h1.ok,λp hp hk=> ?_,λp hp=> ?_⟩,h2⟩,λp hp=> ?_,.refl _ _,by grind [Xr],h6⟩
 ·rw[Zk]at hk⊢;by_cases e:t=p
  ·subst e;simp only[SS.at,Zhp];exact⟨v,US (by omega),x,by simp[eval,Zo],hv.mono λb hb=>GH.ext_F (h1.ok.g_F b hb)⟩
  ·simp only[SS.at,if_neg e]at hk⊢;have hag:=(h1.set (v:=v) hS).agree (t:=putS s (c.ix t) (.v x)) λy hy=>by rw[Zo,if_neg (hix y hy)]
   cases e2:S.at p with
   |none=>rw[e2]at hk;cases hk
   |some k=>
    have:=hag.at_ p (by grind [Zk,Y4]) (by simp_all[Zk]);simp_all[Zk]
 ·refine absurd ?_ hp;rw[Zk];split<;>exact Y4 _
 ·by_cases e:t=p
  ·simp_all[SS.at]
  ·simp only[SS.at,if_neg e]at hp;rw[Zo,if_neg (hix _ (Uf hp))];exact h3 p hp
end
noncomputable def cV:Ctx:= {P:=Sol.prog,ix:=(vf Sol.prog).ix,own:=λ_=>false,fresh,sig:=sigV,tr:=[3],n:=82}
theorem Qk{code:Code}{S:SS}{st:Stm}{fl:Flow}{B:Nat}{G Kf:Nat->Prop}{s:St}{a:Act}{w w0:World}{T0:Array Value}{N:St->Prop}{X:Nat->St->Prop}{Rt:St->Prop}(hc:comp (vf Sol.prog) code S=some (st,fl))(hr:RelS Kf [4,23] T0 cV B G w0 82 s a w S)(hw:wpS Sol.prog st s N X Rt):
  code.wp Sol.prog (Post Kf [4,23] T0 cV B G w0 82 fl N X Rt) a w:=
 Sy (fc:=vf Sol.prog) follows (λp hp q hq he=>Z16 (Zir _ hp) (Zir _ hq) he) rfl rfl rfl (ZgP _) code (QB (λ_=>trivial) code) hc hr hw
noncomputable def bodyC:Code:=cAt ofC [1,1,1,1,1,1,1,0,1,0,0]
noncomputable def ops9:Array Oper:=Z6a (cAt ofC [1,1,1,1,1,1,1,0,1,0,0,0])
theorem ZeQ:bodyC=.seq (.region 9 ops9 false) (cAt ofC [1,1,1,1,1,1,1,0,1,0,0,1]):=by kernel_rfl
theorem ZaE:cAt ofC [1,1,1,1]=.seq (cAt ofC [1,1,1,1,0]) (.seq (cAt ofC [1,1,1,1,1,0]) (.seq (cAt ofC [1,1,1,1,1,1,0]) (.seq (.seq (cAt ofC [1,1,1,1,1,1,1,0,0]) (.block 0 (.loop bodyC))) (cAt ofC [1,1,1,1,1,1,1,1])))):=by kernel_rfl
noncomputable def ops8:Array Oper:=Z6a (cAt ofC [1,1,1,1,1,1,1,0,0])
theorem Zfv:cAt ofC [1,1,1,1,1,1,1,0,0]=.region 8 ops8 false:=by kernel_rfl
def zF:Value:=.agg #[.int .i64 0,.int .i64 0,.int .i64 0,.bool false,.int .u64 0,.int .u64 0,.slice none 0 0]
theorem Zdb:∃t ch d inf o,ops9[0]?=some o/\o.guard=none/\o.dst=some 24/\o.op=.recv t ch true/\ch=.tmp 23/\Sol.prog.underlying t=some (.chan d 87)/\Sol.prog.info? 87=some inf/\inf.zero=some zF:=
 ⟨_,_,_,_,_,rfl,rfl,rfl,rfl,rfl,rfl,rfl,rfl⟩
theorem Zdc:∃o,ops9[1]?=some o/\o.guard=none/\o.dst=some 25/\o.op=.extract (.tmp 24) 1:=⟨_,rfl,rfl,rfl,rfl⟩
theorem Z68:ops9.size=2:=rfl
def rLS:SS:=[(1,.mem [.fz,.fz,.fz,.fz,.fz,.fz,.fz,.fz,.fz,.fz]),(2,.mem [.fz,.fz]),(3,.fz),(5,.own 87),(6,.mem [.own 84]),(7,.mem [.own 85])]
structure AtL (B:Nat) (G:Nat->Prop) (wS:World) (c:Nat) (st:Vw) (hc:List V) (s:St) (a:Act) (w:World):Prop where
 rel:∃T0 w0,RelS G [4,23] T0 cV B G w0 82 s a w rLS
 same:Same G wS w
 ch:a.tmps[23]?=some (.chan (some c))
 s1:get s 1=.m hc
 s6:get s 6=.v (.sl (st.ns.map foV))
 s7:get s 7=.m [mpA vi st.nm]
 s8:get s 8=.m [mpA vu st.tm]
theorem AtL.put{B:Nat}{G:Nat->Prop}{wS:World}{c:Nat}{st:Vw}{hc:List V}{s:St}{a:Act}{w:World}(h:AtL B G wS c st hc s a w){v:Value}{x:V}{b:Bool}(hv:Rd wS G x v):
  ∃a2 s2 T0 w0,a2=(a.put (some 24) (.tuple #[v,.bool b])).put (some 25) (.bool b)/\RelS G [4,23] T0 cV B G w0 82 s2 a2 w rDS/\a2.tmps[23]?=some (.chan (some c))/\get s2 1=.m hc/\get s2 6=.v (.sl (st.ns.map foV))/\get s2 7=.m [mpA vi st.nm]/\get s2 8=.m [mpA vu st.tm]/\get s2 12=.v (.tup [x,.bool b])/\get s2 10=.v (.bool b):=by
 obtain⟨T0,w0,hr⟩:=h.rel
 have hv':Rd w G (.tup [x,.bool b]) (.tuple #[v,.bool b]):=by
  refine .tup _ _ rfl λi c hi=> ?_
  match i,hi with
  |0,hi=>cases hi;exact hv.keep h.same λ_ q=>q
  |1,hi=>cases hi;exact .bool _
 have h1:=hr.put (t:=24) rfl (by decide+kernel) (by omega) hv';have h2:=h1.put (t:=25) (v:=.bool b) (x:=.bool b) rfl (by decide+kernel) (by omega) (.bool _);have i24:cV.ix 24=12:=by decide+kernel
 have i25:cV.ix 25=10:=by decide+kernel
 rw[i24,i25]at h2;refine⟨_,_,_,_,rfl,h2.weak (R:=rDS) (by kernel_rfl),?_,?_,?_,?_,?_,?_,?_⟩
 ·rw[Yj (by omega),Yj (by omega)];exact h.ch
 all_goals simp[Zo,h.s1,h.s6,h.s7,h.s8]
theorem Z6r{B:Nat}{G:Nat->Prop}{wS:World}{c:Nat}{hc:List V}{k:List Item}{b:Frame}{Post:Frame->List Frame->World->Prop}(fin:Vw)
  (hz:Rd wS G (foV ⟨⟨0,0,0,false,0⟩,0,[]⟩) zF)
  (hend:∀s a w T0 w0,RelS G [4,23] T0 cV B G w0 82 s a w rDX->get s 1=.m hc->get s 6=.v (.sl (fin.ns.map foV))->get s 7=.m [mpA vi fin.nm]->get s 8=.m [mpA vu fin.tm]->LS Sol.prog c Post [] (b.at a k) [] w):
  ∀(fs:List (Fo×Value)) (st:Vw),(∀y∈fs,Rd wS G (foV y.1) y.2)->st.ns.length+fs.length<=4000000->(fs.map (·.1)).foldl Vw.put st=fin->∀s a w,AtL B G wS c st hc s a w->
   LS Sol.prog c Post (fs.map (λy=>.recv y.2)++[.closed zF]) (b.at a (.code bodyC:: .inLoop bodyC:: .inBlock 0::k)) [] w:=by
 obtain⟨t,ch,d,inf,o,o1,o2,o3,o4,o5,o6,o7,o8⟩:=Zdb;obtain⟨o',p1,p2,p3,p4⟩:=Zdc
 have ext:∀(a:Act) (w:World) (v:Value) (b:Bool),a.tmps[24]?=some (.tuple #[v,.bool b])->(execOp a.eval o').run Sol.prog w=.ok (.value (.bool b)) w:=λa w v b h=>by
  have he:a.eval (.tmp 24)=.tuple #[v,.bool b]:=Act.eval_tmp a 24 _ h;unfold execOp;simp only[p4,he];rfl
 have enter:∀ {es:List Ev} {e:Ev} {v:Value} {fl:Bool} {s:St} {st:Vw} {a:Act} {w:World},e.val=.tuple #[v,.bool fl]->((∃v,e=.recv v)\/e=.closed zF)->AtL B G wS c st hc s a w->
   LS Sol.prog c Post es (b.at ((a.put (some 24) (.tuple #[v,.bool fl])).put (some 25) (.bool fl)) (.code (cAt ofC [1,1,1,1,1,1,1,0,1,0,0,1]):: .inLoop bodyC:: .inBlock 0::k)) [] w->
   LS Sol.prog c Post (e::es) (b.at a (.code bodyC:: .inLoop bodyC:: .inBlock 0::k)) [] w:=λ{es e v fl s st a w} hev hcl hA hk=>by
  obtain⟨T0,w0,hr⟩:=hA.rel;have hsz:a.tmps.size=82:=hr.2.2.2.1;rw[show(Item.code bodyC)=.code (.seq (.region 9 ops9 false) (cAt ofC [1,1,1,1,1,1,1,0,1,0,0,1]))by rfl];refine LS.two (LS.region ?_);rw[Z68,show List.range 2=[0,1]from rfl];refine LS.event (i:=0) o1 (by simp[Region.wanted,o2]) ?_ ?_
  ·rcases hcl with ⟨v,rfl⟩|rfl
   ·exact⟨t,ch,d,_,inf,zF,o4,by rw[o5];rfl,by rw[o5];exact Act.eval_tmp a 23 _ hA.ch,o6,o7,o8,λz' e=>by cases e⟩
   ·exact⟨t,ch,d,_,inf,zF,o4,by rw[o5];rfl,by rw[o5];exact Act.eval_tmp a 23 _ hA.ch,o6,o7,o8,λz' e=>by grind⟩
  ·rw[o3,hev];refine LS.value (i:=1) p1 (by simp[Region.wanted,p2]) (ext _ w v fl (US (by omega))) ?_;simp_all[LS.regEnd]
 intro fs
 induction fs with
 |nil=>
  intro st hfs hn hfin s a w hA;refine enter (v:=zF) (fl:=false) rfl (.inr rfl) hA ?_;obtain⟨a2,s2,T0,w0,rfl,hr,h23,h1,h6,h7,h8,h12,h10⟩:=hA.put (b:=false) hz;refine LS.wp (Qk rDc hr (Zdp (N:=λ_=>False) (R:=λ_=>False) (X:=λid s'=>id=0/\s'=s2) h10 ⟨rfl,rfl⟩)) λe a' w' hp=> ?_;cases e with
  |normal=>obtain⟨_,_,_,h,_⟩:=hp;grind
  |exit id=>
   obtain⟨s',S',hx,⟨rfl,rfl⟩,hr'⟩:=hp;have hS:S'=rDX:=by simpa using hx
   subst hS;refine⟨k,rfl,?_⟩
   grind
  |ret=>obtain⟨_,_,_,h,_⟩:=hp;grind
  |_=>exact hp.elim
 |cons y fs ih=>
  intro st hfs hn hfin s a w hA;simp only[ZhL]at hn;refine enter (v:=y.2) (fl:=true) rfl (.inl ⟨_,rfl⟩) hA ?_;obtain⟨a2,s2,T0,w0,rfl,hr,h23,h1,h6,h7,h8,h12,h10⟩:=hA.put (b:=true) (hfs y (by simp));refine LS.wp (Qk rDc hr.base (Zfx (X:=λ_ _=>False) (R:=λ_=>False) (N:=λs'=>get s' 6=.v (.sl ((st.put y.1).ns.map foV))/\get s' 7=.m [mpA vi (st.put y.1).nm]/\get s' 8=.m [mpA vu (st.put y.1).tm]/\get s' 1=.m hc) h6 h7 h8 h12 h10 (by omega) λs' q6 q7 q8 q1 _ _=>⟨q6,q7,q8,q1.trans h1⟩)) λe a' w' hp=> ?_;cases e with
  |normal=>
   obtain⟨s',S',hS,⟨q6,q7,q8,q1⟩,hr'⟩:=hp;cases hS;refine LS.inLoop (ih (st.put y.1) (λz hz=>hfs z (by simp[hz])) ?_ hfin s' a' w' ⟨⟨_,_,hr'.weak (R:=rLS) (by kernel_rfl)⟩,hA.same.trans hr'.2.2.1.same,?_,q1,q6,q7,q8⟩)
   ·grind [Vw.put]
   ·rw[hr'.2.2.1.fix 23 (by simp)];exact h23
  |exit id=>obtain⟨_,_,_,h,_⟩:=hp;grind
  |ret=>obtain⟨_,_,_,h,_⟩:=hp;grind
  |_=>exact hp.elim
def Zbe(b:Frame)(D:World->Nat->Prop)(r:V)(fr:Frame)(cs:List Frame)(w:World):Prop:=
 cs=[]/\∃(a:Act) (todo:List Item),fr= {b.at a todo with mode:=.returning}/\a.defers=[]/\∃v,(results Try.f15 a.tmps).run Sol.prog w=.ok v w/\Rd w (D w) r v
theorem Z1A{code:Code}{S:SS}{st:Stm}{S2:SS}{B:Nat}{G Kf:Nat->Prop}{s:St}{a:Act}{w w0:World}{T0:Array Value}{N:St->Prop}{c:Nat}{Pst:Frame->List Frame->World->Prop}{es:List Ev}{b:Frame}{k:List Item}(hc:comp (vf Sol.prog) code S=some (st,⟨some S2,[],[]⟩))(hr:RelS Kf [4,23] T0 cV B G w0 82 s a w S)
  (hw:wpS Sol.prog st s N (λ_ _=>False) (λ_=>False)) (hk:∀s' a' w',N s'->RelS Kf [4,23] T0 cV B G w0 82 s' a' w' S2->LS Sol.prog c Pst es (b.at a' k) [] w'):LS Sol.prog c Pst es (b.at a (.code code::k)) [] w:=
 LS.wp (Qk hc hr hw) λe a' w' hp=>by
  cases e with
  |normal=>obtain⟨s',S',hS,hN,hr'⟩:=hp;cases hS;exact hk _ _ _ hN hr'
  |exit id=>obtain⟨_,_,_,h,_⟩:=hp;grind
  |ret=>obtain⟨_,_,_,h,_⟩:=hp;grind
  |_=>exact hp.elim
theorem Zda:∃o,ops8[0]?=some o/\o.guard=none/\o.dst=some 23/\o.op=.move (.tmp 4):=⟨_,rfl,rfl,rfl,rfl⟩
theorem Z67:ops8.size=1:=rfl
theorem Zap{B:Nat}{G:Nat->Prop}{c:Nat}{b:Frame}{s:St}{a:Act}{w w0:World}{T0:Array Value}{bs cp tt y sc x5 x6 x7 x8:V}{roots:List Int}{fs:List (Fo×Value)}{fin:Vw}(hr:RelS G [4,23] T0 cV B G w0 82 s a w r5S)(hch:a.tmps[4]?=some (.chan (some c)))(h1:get s 1=.m [bs,cp,tt,y,sc,x5,x6,x7,x8,.sl (roots.map vu)])
  (hfs:∀y∈fs,Rd w G (foV y.1) y.2) (hn:fs.length<=4000000) (hfin:(fs.map (·.1)).foldl Vw.put ⟨[],[],[]⟩=fin) (hs:fin.sm roots):
  LS Sol.prog c (Zbe b (λw' x=>G x\/(B<=x/\x<w'.heap.size)) (XD (fin.gr roots))) (fs.map (λy=>.recv y.2)++[.closed zF]) (b.at a [.code (cAt ofC [1,1,1,1])]) [] w:=by
 rw[ZaE];refine LS.two (Z1A r5c hr.base (N:=λs'=>get s' 6=.v (.sl [])/\get s' 1=get s 1) (by simp[r5,Zo]) λs1 a1 w1 ⟨q6,q1⟩ hr1=> ?_);refine LS.two (Z1A r6c hr1.base (N:=λs'=>get s' 7=.m [mpA vi []]/\get s' 6=.v (.sl [])/\get s' 1=get s 1) (by simp[r6,Zo,q6,q1];rfl) λs2 a2 w2 ⟨t7,t6,t1⟩ hr2=> ?_);refine LS.two (Z1A r7c hr2.base (N:=λs'=>get s' 8=.m [mpA vu []]/\get s' 7=.m [mpA vi []]/\get s' 6=.v (.sl [])/\get s' 1=get s 1) (by simp[r7,Zo,t7,t6,t1];rfl) λs3 a3 w3 ⟨u8,u7,u6,u1⟩ hr3=> ?_)
 have hch3:a3.tmps[4]?=some (.chan (some c)):=by
  rw[hr3.2.2.1.fix 4 (by simp),hr2.2.2.1.fix 4 (by simp),hr1.2.2.1.fix 4 (by simp)];exact hch
 have hsame:Same G w w3:=(hr1.2.2.1.same.trans hr2.2.2.1.same).trans hr3.2.2.1.same;refine LS.two (LS.two ?_);rw[Zfv];refine LS.region ?_;rw[Z67,show List.range 1=[0]from rfl];obtain⟨o,o1,o2,o3,o4⟩:=Zda;have hev:a3.eval (.tmp 4)=.chan (some c):=Act.eval_tmp a3 4 _ hch3;refine LS.value (v:=.chan (some c)) (w':=w3) o1 (by simp[Region.wanted,o2]) (by simp_all[execOp]) (LS.regEnd ?_);rw[o3];have hr4:=hr3.set (t:=23) (v:=.chan (some c)) rfl;have hsz:a3.tmps.size=82:=hr3.2.2.2.1;refine LS.block (LS.steps (.one step_loop) ?_);refine Z6r (hc:=[bs,cp,tt,y,sc,x5,x6,x7,x8,.sl (roots.map vu)]) fin (wS:=w) (B:=B) (G:=G) ?_ ?_ fs ⟨[],[],[]⟩ hfs (by grind) hfin s3 _ w3 ⟨⟨_,_,hr4.weak (R:=rLS) (by kernel_rfl)⟩,hsame,US (by omega),u1.trans h1,u6,u7,u8⟩
 ·refine .agg _ _ rfl (by simp) λi x hi=> ?_
  match i,hi with
  |0,hi=>cases hi;exact .int _ _
  |1,hi=>cases hi;exact .int _ _
  |2,hi=>cases hi;exact .int _ _
  |3,hi=>cases hi;exact .bool _
  |4,hi=>cases hi;exact .int _ _
  |5,hi=>cases hi;exact .int _ _
  |6,hi=>cases hi;exact .nil _ _ (ZhO _)
 ·intro s5 a5 w5 T5 w05 hr5 v1 v6 v7 v8;refine LS.wp (Qk rCc ((hr5.weak (R:=rCS) (by kernel_rfl)).base) (Zfw (N:=λ_=>False) (X:=λ_ _=>False) (R:=λs'=>resV s' [(2,.ag 2),(3,.v)]=some (XD (fin.gr roots))) hs v1 v6 v7 v8 λs' h=>h)) λe a' w' hp=> ?_;cases e with
  |normal=>obtain⟨_,_,_,h,_⟩:=hp;grind
  |exit id=>obtain⟨_,_,_,h,_⟩:=hp;grind
  |ret=>
   obtain⟨s',S',hS,hR,hr'⟩:=hp;have hS:S'=rCR:=by simpa using hS
   subst hS;obtain⟨⟨h,k1,k2⟩,k3,k4,k5,k6⟩:=hr';intro todo
   obtain⟨v,hv,hvr⟩:=WT (c:=cV) (f:=Try.f15) (D:=λx=>G x\/(B<=x/\x<w'.heap.size)) k1 k3 (λx hx=>by
    rcases k1.ok.f_or x hx with h1|h1
    ·grind
    ·exact .inr ⟨h1,k1.ok.f_lt x hx⟩) (λr hr=>⟨ZgT.1 (show(Try.f15.results.toList.all (qU Sol.prog rCR))=true by kernel_rfl) r hr,λi x hx=>.inr ⟨(k1.ok.b_lt _ _ x hx).1,(k1.ok.b_lt _ _ x hx).2.1⟩⟩) (x:=XD (fin.gr roots)) (by rw[<-hR];rfl)
   exact LS.now ⟨rfl,a',todo,rfl,k6,v,hv,hvr⟩
  |_=>exact hp.elim
end
section
theorem Z4L:∃o ats,clOps[1]?=some o/\o.guard=none/\o.dst=none/\o.op=.call ⟨.builtin .close, #[.tmp 70],ats⟩:=⟨_,_,rfl,rfl,rfl,rfl⟩
section
variable {b:Frame}{a:Act}{c:Nat}{w:World}
theorem Z3j{cs:List Frame}(hb:b.fn=42)(hk:b.kind≠.early)(ha:a.tmps[70]?=some (.chan (some c))){s r:Nat}{tm:Bool}(hc:w.heap[c]?=some (.chan 0 #[] false s r tm)):
  stepG Try.prog false (G (b.at a [.inRegion clOps [1]]) cs) w=.go (G (b.at a [.inRegion clOps []]) cs) (cput w c (.chan 0 #[] true s r tm)) #[⟨.obj c,false,true⟩,⟨.obj c,true,true⟩]:=by
 obtain⟨o,ats,h1,h2,h3,h4⟩:=Z4L;have hev:a.eval (.tmp 70)=.chan (some c):=Act.eval_tmp a 70 _ ha
 have e0:execOp a.eval o=(do pure (.value (<-Builtin.close_ ats o.type #[.chan (some c)])):Sem Next):=by
  unfold execOp;simp only[h4];simp[resolve,builtin,hev];rfl
 have hr:(execOp a.eval o).run Try.prog w=.ok (.value (.tuple #[])) (cput w c (.chan 0 #[] true s r tm)):=by
  rw[e0];simp only[Zhf,run_close_open ats o.type hc,Zhd];rfl
 have he:(execOp a.eval o).events Try.prog w #[]=#[⟨.obj c,false,true⟩,⟨.obj c,true,true⟩]:=by
  rw[e0]
  have h2:(Builtin.close_ ats o.type #[.chan (some c)]).runT Try.prog w #[]=(.ok (.tuple #[]) (cput w c (.chan 0 #[] true s r tm)), #[⟨.obj c,false,true⟩,⟨.obj c,true,true⟩]):=by
   refine ZiZ ?_ (events_close_open ats o.type hc);rw[Zip];exact run_close_open ats o.type hc
  show((Sem.bind _ _).runT Try.prog w #[]).2=_;rw[Zit,h2];rfl
 rw[stepG_value h1 (by simp[Region.wanted,h2]) hk hr];have e1:a.put o.dst (.tuple #[])=a:=by rw[h3];rfl
 rw[e1];unfold listed;rw[he,seen_eq (by rw[hb,Try.func42];rfl) (by simp)]
noncomputable def bornF:Frame:= {(default:Frame)with fn:=Try.prog.funcs.size,defers:=[],mode:=.panicking [goexitEntry]}
theorem Z3Z(hb:b= {base 42 with kind:=.deferred})(hd:a.defers=[]):QuitsIn Try.prog 4 (G (b.at a [.inRegion clOps []]) [bornF]):=by
 subst hb;refine .ctl (g':=G (({base 42 with kind:=.deferred}:Frame).at a []) [bornF]) rfl (λw=>by simp[G,stepG,stepG.exec,Frame.at]) ?_;refine .ctl (g':=G {(({base 42 with kind:=.deferred}:Frame).at a [])with mode:=.returning} [bornF]) rfl (λw=>by simp[G,stepG,stepG.exec,Frame.at]) ?_;refine .ctl (g':=G bornF []) rfl (λw=> ?_) ?_
 ·have hf:=Try.func42;simp[G,stepG,unwind,Frame.at,hd,base,hf,results,Try.results42,doReturn,bornF,goexitEntry];rfl
 ·refine .ctl (g':= {(G bornF [])with status:=.finished}) rfl (λw=> ?_) rfl;simp[G,stepG,unwind,bornF,goexitEntry,Frame.catches];rfl
end
theorem Z81(l:List Int):NoM (.sl (l.map vu)):=.sl _ λc hc=>by
 have:flat (l.map vu)=l.map vu:=YG λx hx=>by obtain⟨y,_,rfl⟩:=ZgX.1 hx;rfl
 rw[this]at hc;obtain⟨y,_,rfl⟩:=ZgX.1 hc;exact .int _ _
theorem Z9O{n:Nat}{v:Value}(h:FixV n v)(lo m:Nat):FixV n (sliV v lo m):=by
 intro ρ hρ;have h1:=h ρ hρ;unfold sliV;split
 ·rename_i b o q k c;simp only[ren,ZgY,renA,Value.slice.injEq,ZgH,Addr.mk.injEq,and_true]at h1;split<;>simp[ren,renA,h1]
 ·exact h1
theorem Z91{n:Nat}{h:Hp}{x:Nat->Value}{p:Nat}(hx:FixV n (x p))(o:Ob):FixV n (fvV h x p o):=by
 intro ρ hρ;have:=Z9O hx (o.at_+1).toNat o.size.toNat ρ hρ;unfold fvV;rw[Ye];simp[ZT,Yu,this]
theorem Z0i{h:Hp}{x:Nat->Value}{v:Value}:∀ {n p:Nat},v∈fvs h x n p->∃q o,q<p+n/\v=fvV h x q o
 |0,p,hv=>by simp[fvs]at hv
 |n+1,p,hv=>by
  simp only[fvs,Zh9,ZgX]at hv;rcases hv with ⟨o,_,rfl⟩|hv
  ·exact⟨p,o,by omega,rfl⟩
  ·obtain⟨q,o,h1,h2⟩:=Z0i hv;exact⟨q,o,by omega,h2⟩
def bD:Frame:= {base 42 with kind:=.deferred}
theorem Z0b(args:Array Value):Frame.enter Try.prog 42 args .deferred=bD.at {tmps:=args++Array.replicate (71-args.size) undef,defers:=[]} [.code seC]:=by
 simp[Frame.enter,Frame.at,Try.func42,Z2A,bD,base,Try.ntmps42]
theorem Z9p:ZO Sol.prog false seC=true:=by kernel_rfl
theorem Z4B:Sol.prog.funcs[Try.prog.funcs.size]?=none:=by
 apply ZiW;simp[Sol.prog,VA]
theorem Z3i{c n0:Nat}{h:Hp}{x:Nat->Value}{K:Nat->Prop}{w:World}(hh:h.ok)(hn0:w.heap.size<=n0)(hc:c<n0)(hK:∀b,K b->∃cs e fr,w.heap[b]?=some (.cells cs e fr))(hKf:∀b o,w.heap[b]?=some o->K b->FixO n0 o)
  (hx:∀j,j<5->FixV n0 (x j)) (hr:∀j,j<5->Rd w K (.sl ((lsH h j).map vu)) (x j))
  (hob:∀p,p<4->(obP h p).length<=1000000/\∀o∈obP h p,0<=o.at_/\0<=o.size/\o.at_+1+o.size<=(lsH h p).length):
  Play Try.prog false c K (XO Try.prog c) ((fvs h x 4 0).map .send) (λ_=>False) (born Try.prog {target:=.fn (.func 42) #[],args:=#[hpA h x,.chan (some c)]}) w:=by
 have hKl:∀b,K b->b<w.heap.size:=λb hb=>by obtain⟨_,_,_,e⟩:=hK b hb;exact(ZgO.1 e).1
 have hst:∀w1:World,stepG Try.prog false (born Try.prog {target:=.fn (.func 42) #[],args:=#[hpA h x,.chan (some c)]}) w1=.go (G (Frame.enter Try.prog 42 #[hpA h x,.chan (some c)] .deferred) [bornF]) w1 #[]:=λw1=>by
  have hn:¬Try.f42.name= "runtime.NumGoroutine" :=by decide+kernel
  have hb:¬Try.f42.body=none:=by rw[Z2A];simp
  simp[stepG,born,unwind,callDeferred,invoke,callFunc,G,bornF,hn,hb];rfl
 refine .step (λw1 hw1=>⟨_,_,_,_,hst w1,ZgP _,ZgP _,rfl,rfl,λ_ _ _=>rfl,λe he=>by simp at he⟩) λw1 g' w' es' hw1 e=> ?_;have e:=(hst w1).symm.trans e;injection e with e1 e2 e3;subst e1 e2;have hg:(grow (λ_=>False) w1 w1:Nat->Prop)=λ_=>False:=funext λb=>propext ⟨λhb=>by rcases hb with hb|hb;exact hb;omega,λhb=>hb.elim⟩;rw[hg];refine Play.rely ?_ hw1
 let X:Cx:=cxS Try.prog Sol.prog n0 K (λ_=>False)
 have hXP:X.P=Try.prog:=Sol.sub.P n0 K (λ_=>False)
 have hargs:∀v∈ #[hpA h x,.chan (some c)],FixV n0 v:=λv hv=>by
  have:v=hpA h x\/v=.chan (some c):=by simpa using hv
  rcases this with rfl|rfl
  ·intro ρ hρ;unfold hpA;rw[Ye];simp[ZT,Yu,hx 0 (by omega) ρ hρ,hx 1 (by omega) ρ hρ,hx 2 (by omega) ρ hρ,hx 3 (by omega) ρ hρ,hx 4 (by omega) ρ hρ]
  ·intro ρ hρ;simp[ren,hρ c hc]
 have hbf:∀ρ,renF ρ bornF=bornF:=λρ=>by
  simp[renF,bornF,renM,jh,goexitEntry,Xb];exact⟨by show Array.map (ren ρ) #[]=#[];simp,rfl,rfl⟩
 have hw:=ZaW X (Sol.sub.ok n0 K (λ_=>False)) (c:=c) (es:=(fvs h x 4 0).map .send) (fr:=Frame.enter Try.prog 42 #[hpA h x,.chan (some c)] .deferred) (cs:=[bornF]) (ds:=[]) (main:=false) (wc:=w)
  (λe he=>by
   obtain⟨v,hv,rfl⟩:=ZgX.1 he;obtain⟨q,o,hq,rfl⟩:=Z0i hv;exact⟨Z91 (hx q (by omega)) o,hc⟩)
  (λρ=>by
   rw[Z0b];refine⟨⟨λi hi=> ?_,λd hd=>by simp[Frame.at]at hd,.inr rfl,.inl ⟨_,seC,Sol.func42,Try.func42,Z2A,Z9p⟩⟩,λf hf=> ?_,rfl⟩
   ·have:i=.code seC:=by simpa[Frame.at]using hi
    subst this;exact Z9p
   ·have:f=bornF:=by simpa using hf
    subst this;exact⟨λi hi=>(by cases hi),λd hd=>(by cases hd),.inl rfl,.inr (.inl ⟨Z4B,ZiW (ZgP _)⟩)⟩)
  (λf hf=>by
   have:f=Frame.enter Try.prog 42 #[hpA h x,.chan (some c)] .deferred\/f=bornF:=by simpa using hf
   rcases this with rfl|rfl
   ·rw[Z0b];intro ρ hρ
    have e1:(#[hpA h x,.chan (some c)]++Array.replicate (71- (#[hpA h x,.chan (some c)]:Array Value).size) undef).map (ren ρ)=#[hpA h x,.chan (some c)]++Array.replicate (71- (#[hpA h x,.chan (some c)]:Array Value).size) undef:=by
     rw[ZiD,VP hargs ρ hρ];simp[Xb]
    simp only[renF,Frame.at,e1];simp[renI,renM,bD,base]
   ·exactλρ _=>hbf ρ)
  (λb o ho hO=>by
   rcases hO with hO|hO
   ·exact hO.elim
   ·exact hKf b o ho hO)
  (Post:=λwl=>AtCl c bD [bornF])
  (λt=>by
   rw[Z0b]
   exact ZaK bD [bornF] (X.mask w t) h hh x c K (λb hb=>by simpa[Cx.mask,X,cxS]using ZgV (hKl b hb) hn0)
    (λj hj=>Z6p (X:=X) (λb h=>h) (λb c e fr hg hc=>hg) hn0 (hr j hj) (Z81 _)) hob)
 have hw:Play Try.prog false c K _ ((fvs h x 4 0).map .send) (λ_=>False) (G (Frame.enter Try.prog 42 #[hpA h x,.chan (some c)] .deferred) ([bornF]++[])) w:=hXP▸hw;refine hw.mono λO g w' ⟨ρ,t,fr',cs',wl',fc,cc,hg,hid,⟨hcs,a,hfr,h70,hd⟩,hwv⟩=> ?_;subst hg hcs hfr;have htop:fc=renF ρ (bD.at a [.inRegion clOps [1]]):=hwv.top;have hund:cc=[bornF].map (renF ρ)++[]:=hwv.under
 have e1:fc=bD.at {tmps:=a.tmps.map (ren ρ),defers:=[]} [.inRegion clOps [1]]:=by
  rw[htop];simp[renF,Frame.at,hd,renM,renI,bD,base]
 have e2:cc=[bornF]:=by rw[hund];simp[hbf]
 rw[e1,e2]
 have h70':(a.tmps.map (ren ρ))[70]?=some (.chan (some c)):=by
  rw[Zh7,h70];simp[ren,hid c hc]
 refine⟨rfl,?_,_,4,λs r tm hcc=>Z3j rfl (by simp[bD]) h70' hcc,Z3Z rfl rfl⟩;obtain⟨o,ats,o1,o2,o3,o4⟩:=Z4L;simp[mayWake,G,Frame.at,bD,base,o1,o4]
end
inductive NoZ:V->Prop where
 |int (k:IntKind) (n:Int):NoZ (.int k n)
 |bool (b:Bool):NoZ (.bool b)
 |sl (l:List V):(∀y∈l,y.cells≠[])->(∀c∈flat l,NoZ c)->NoZ (.sl l)
 |agg (l:List V):(∀c∈l,NoZ c)->NoZ (.agg l)
 |tup (l:List V):(∀c∈l,NoZ c)->NoZ (.tup l)
def NoZ.m{x:V}(h:NoZ x):NoM x:=by
 induction h with
 |int k n=>exact .int k n
 |bool b=>exact .bool b
 |sl l _ _ ih=>exact .sl l ih
 |agg l _ ih=>exact .agg l ih
 |tup l _ ih=>exact .tup l ih
def Zfy{w:World}{D:Nat->Prop}{x:V}{v:Value}(h:Rd w D x v)(hm:NoZ x):Rd w (λb=>D b/\b<w.heap.size) x v:=by
 induction h with
 |int k n=>exact .int k n
 |bool b=>exact .bool b
 |nil a cap hc=>exact .nil a cap hc
 |sl l b o cap k vs h1 h2 h3 h4 h5 h6 ih=>
  cases hm with
  |sl _ hz hm=>
   cases l with
   |nil=>exact .nil _ cap h2
   |cons y l=>
    have hk:0<k:=by
     rw[<-(h4 y (by simp)).1];exact ZjQ.2 (hz y (by simp))
    have hlt:=LV (h5 0 (by simp_all));exact .sl _ b o cap k vs h1 h2 ⟨h3,hlt⟩ h4 h5 λi c hi=>ih i c hi (hm c (TL hi))
 |agg cs vs h1 h2 _ ih=>
  cases hm with
  |agg _ hm=>exact .agg cs vs h1 h2 λi c hi=>ih i c hi (hm c (ZgQ hi))
 |tup l vs h1 _ ih=>
  cases hm with
  |tup _ hm=>exact .tup l vs h1 λi c hi=>ih i c hi (hm c (ZgQ hi))
 |_=>cases hm
def ZaB{w:World}{D:Nat->Prop}{x:V}{v:Value}(h:Rd w D x v)(hm:NoZ x):Rd w (λb=>D b/\∃cs e fr,w.heap[b]?=some (.cells cs e fr)) x v:=by
 induction h with
 |int k n=>exact .int k n
 |bool b=>exact .bool b
 |nil a cap hc=>exact .nil a cap hc
 |sl l b o cap k vs h1 h2 h3 h4 h5 h6 ih=>
  cases hm with
  |sl _ hz hm=>
   cases l with
   |nil=>exact .nil _ cap h2
   |cons y l=>
    have hk:0<k:=by
     rw[<-(h4 y (by simp)).1];exact ZjQ.2 (hz y (by simp))
    obtain⟨_,c,e,fr,hb,_⟩:=WH (h5 0 (by simp_all));exact .sl _ b o cap k vs h1 h2 ⟨h3,c,e,fr,hb⟩ h4 h5 λi c hi=>ih i c hi (hm c (TL hi))
 |agg cs vs h1 h2 _ ih=>
  cases hm with
  |agg _ hm=>exact .agg cs vs h1 h2 λi c hi=>ih i c hi (hm c (ZgQ hi))
 |tup l vs h1 _ ih=>
  cases hm with
  |tup _ hm=>exact .tup l vs h1 λi c hi=>ih i c hi (hm c (ZgQ hi))
 |_=>cases hm
def ZcU(l:List Int):NoZ (.sl (l.map vu)):=.sl _ (λy hy=>by obtain⟨z,_,rfl⟩:=ZgX.1 hy;simp) λc hc=>by
 rw[YG λx hx=>by obtain⟨y,_,rfl⟩:=ZgX.1 hx;rfl]at hc;obtain⟨y,_,rfl⟩:=ZgX.1 hc;exact .int _ _
def ZcT(l:List Int):NoZ (.sl (l.map vi)):=.sl _ (λy hy=>by obtain⟨z,_,rfl⟩:=ZgX.1 hy;simp) λc hc=>by
 rw[YG λx hx=>by obtain⟨y,_,rfl⟩:=ZgX.1 hx;rfl]at hc;obtain⟨y,_,rfl⟩:=ZgX.1 hc;exact .int _ _
def Z99(g:Gr):NoZ (grV g):=.agg _ λc hc=>by
 have:c=.sl (g.nodes.map ndV)\/c=.sl (g.roots.map vi):=by simpa using hc
 rcases this with rfl|rfl
 ·refine .sl _ (λy hy=>by obtain⟨z,_,rfl⟩:=ZgX.1 hy;simp) λc hc=> ?_;obtain⟨y,hy,hc⟩:=Zij.1 hc;obtain⟨n,_,rfl⟩:=ZgX.1 hy;have:c=.sl (n.ptrs.map vi)\/c=.sl (n.data.map vu):=by simpa using hc
  rcases this with rfl|rfl
  ·exact ZcT _
  ·exact ZcU _
 ·exact ZcT _
def qN(g:Gr):NoZ (XD g):=by
 unfold XD;split
 all_goals
  refine .tup _ λc hc=> ?_;simp only[Zh0,Zia,Zjx]at hc;rcases hc with rfl|rfl
  ·exact Z99 _
  ·exact .int _ _
def Z5Z(h:Hp):NoM (hpV h):=.agg _ λc hc=>by
 simp only[Zh0,Zia,Zjx]at hc;rcases hc with rfl|rfl|rfl|rfl|rfl|rfl|rfl|rfl|rfl|rfl
 all_goals first|exact .int _ _|exact .bool _|exact Z81 _
noncomputable def ops4:Array Oper:=Z6a (cAt ofC [1,1,1,0])
def Zar:(ops4.all λo=>okOp Sol.prog false o.op)=true:=by kernel_rfl
def ZaF:ZO Sol.prog false (cAt ofC [1,1,1,1])=true:=by kernel_rfl
def ZcZ:Sol.prog.funcs[15]?=some (refF Try.f15):=by
 have:=Try.func15;simp only[Sol.prog,VA,Zjy,this,ZgY];rfl
def Z2c{X:Cx}{w:World}{t:Nat->Question->Nat}{b:Nat}{cs:Array Value}{T:TypeId}(h:w.heap[b]?=some (.cells cs T (0,0)))(hO:X.O b)(hb:b<X.n0):(X.mask w t).heap[b]?=some (.cells cs T (0,0)):=by
 rw[zn,if_pos hb,h];unfold Cx.maskO;dsimp only;rw[if_pos hO,if_pos ⟨trivial,λc e fr e2=>by grind⟩]
def Z6s{B b1 b2:Nat}{a:Act}{T1 T2:TypeId}{K:Nat->Prop}{h:Hp}{x:Nat->Value}{wl:World}
  (hsz:a.tmps.size=82) (hd:a.defers=[]) (t1:a.tmps[1]?=some (.pointer (some ⟨b1,0,none⟩))) (t2:a.tmps[2]?=some (.pointer (some ⟨b2,0,none⟩))) (t3:a.tmps[3]?=some (.int .i64 0))
  (hb1:wl.heap[b1]?=some (.cells #[.int .u64 h.base,.int .i64 h.cap,.int .i64 h.to,.bool h.cycle,.int .i64 h.scan,x 0,x 1,x 2,x 3,x 4] T1 (0,0))) (hb2:wl.heap[b2]?=some (.cells #[.slice none 0 0,.slice none 0 0] T2 (0,0)))
  (hB1:B<=b1) (hB2:B<=b2) (h12:b1≠b2) (k1:¬K b1) (k2:¬K b2) (hK:∀b,K b->b<wl.heap.size) (hr:∀j,j<5->Rd wl K (.sl ((lsH h j).map vu)) (x j)):
  RelS K [4,23] a.tmps cV B K wl 82 [.no,.m [vu h.base,vi h.cap,vi h.to,.bool h.cycle,vi h.scan,.sl (h.low.map vu),.sl (h.high.map vu),.sl (h.old.map vu),.sl (h.far.map vu),.sl (h.roots.map vu)],.m [.sl [],.sl []],.v (vi 0)] a wl r5S:=by
 have l1:=(ZgO.1 hb1).1;have l2:=(ZgO.1 hb2).1;have i1:cV.ix 1=1:=by decide+kernel
 have i2:cV.ix 2=2:=by decide+kernel
 have i3:cV.ix 3=3:=by decide+kernel
 refine⟨⟨{F:=K,bl:=λt i=>if t=1/\i=0 then some b1 else if t=2/\i=0 then some b2 else none,K:=K},⟨⟨by omega,hK,λb hb=>.inl hb,λb hb=>hb,λt i b hb=> ?_,λt i u j b hb hb'=> ?_,hK,λt i b hb=> ?_,λb hb=>.inl hb⟩,λt _ hk=> ?_,λt hh=> ?_⟩,rfl⟩,λp hp=> ?_,.refl _ _,hsz,hd⟩
 ·grind
 ·grind
 ·grind
 ·rw[Zk]at hk⊢;by_cases e1:t=1
  ·subst e1;refine⟨_,t1,b1,_,T1,rfl,rfl,hb1,rfl,λi y hi=> ?_⟩;have hi10:i<10:=(ZgL.1 hi).1
   match i,hi10 with
   |0,_=>cases hi;exact⟨_,by rfl,rfl,.int _ _⟩
   |1,_=>cases hi;exact⟨_,by rfl,rfl,.int _ _⟩
   |2,_=>cases hi;exact⟨_,by rfl,rfl,.int _ _⟩
   |3,_=>cases hi;exact⟨_,by rfl,rfl,.bool _⟩
   |4,_=>cases hi;exact⟨_,by rfl,rfl,.int _ _⟩
   |5,_=>cases hi;exact⟨_,by rfl,rfl,hr 0 (by omega)⟩
   |6,_=>cases hi;exact⟨_,by rfl,rfl,hr 1 (by omega)⟩
   |7,_=>cases hi;exact⟨_,by rfl,rfl,hr 2 (by omega)⟩
   |8,_=>cases hi;exact⟨_,by rfl,rfl,hr 3 (by omega)⟩
   |9,_=>cases hi;exact⟨_,by rfl,rfl,hr 4 (by omega)⟩
   |i+10,h=>omega
  ·by_cases e2:t=2
   ·subst e2;refine⟨_,t2,b2,_,T2,rfl,rfl,hb2,rfl,λi y hi=> ?_⟩;have hi2:i<2:=(ZgL.1 hi).1
    match i,hi2 with
    |0,_=>cases hi;exact⟨_,by rfl,rfl,.nil _ _ (ZhO _)⟩
    |1,_=>cases hi;exact⟨_,by rfl,rfl,.nil _ _ (ZhO _)⟩
    |i+2,h=>omega
   ·by_cases e3:t=3
    ·subst e3;exact⟨_,t3,_,by rfl,.int _ _⟩
    simp_all[r5S,SS.at,ZiO,TK.isNo]
 ·refine absurd ?_ hh;rw[Zk];split<;>exact Y4 _
 grind [r5S,SS.at]
def EndM(cs:List Frame)(r:V)(D:Nat->Prop)(g:Goroutine)(w:World):Prop:=
 ∃fr,g=G fr cs/\fr.fn=15/\fr.mode=.returning/\fr.defers=[]/\fr.kind=.normal/\∀d,∃v,(results Try.f15 fr.tmps).run Try.prog (w.at d)=.ok v (w.at d)/\Rd (w.at d) (λb=>D b/\b<w.heap.size) r v
def Z5M{c n0 B b1 b2:Nat}{a:Act}{T1 T2:TypeId}{K:Nat->Prop}{h:Hp}{x:Nat->Value}{w:World}{cs:List Frame}{fs:List (Fo×Value)}{fin:Vw}(hh:h.ok)
  (hsz:a.tmps.size=82) (hd:a.defers=[]) (t1:a.tmps[1]?=some (.pointer (some ⟨b1,0,none⟩))) (t2:a.tmps[2]?=some (.pointer (some ⟨b2,0,none⟩))) (t3:a.tmps[3]?=some (.int .i64 0)) (t4:a.tmps[4]?=some (.chan (some c)))
  (hb1:w.heap[b1]?=some (.cells #[.int .u64 h.base,.int .i64 h.cap,.int .i64 h.to,.bool h.cycle,.int .i64 h.scan,x 0,x 1,x 2,x 3,x 4] T1 (0,0))) (hb2:w.heap[b2]?=some (.cells #[.slice none 0 0,.slice none 0 0] T2 (0,0)))
  (hBw:B<=w.heap.size) (hB1:B<=b1) (hB2:B<=b2) (h12:b1≠b2) (k1:¬K b1) (k2:¬K b2) (hn0:w.heap.size<=n0) (hc:c<n0)
  (hK:∀b,K b->∃cs e fr,w.heap[b]?=some (.cells cs e fr)) (hKf:∀(b:Nat) (cs:Array Value) (e:TypeId) (fr:Nat×Nat),w.heap[b]?=some (Obj.cells cs e fr)->FixO n0 (Obj.cells cs e fr)) (hfT:∀v∈a.tmps,FixV n0 v) (hx:∀j,j<5->FixV n0 (x j))
  (hr:∀j,j<5->Rd w K (.sl ((lsH h j).map vu)) (x j)) (hfs:∀y∈fs,Rd w K (foV y.1) y.2/\NoM (foV y.1)) (hev:fs.map (·.2)=fvs h x 4 0) (hn:fs.length<=4000000) (hfin:(fs.map (·.1)).foldl Vw.put ⟨[],[],[]⟩=fin) (hs:fin.sm h.roots):
  Play Try.prog true c K (λ_=>EndM cs (XD (fin.gr h.roots)) (λb=>K b\/B<=b)) ((fvs h x 4 0).map .recv++[.closed zF]) (λb=>b=b1\/b=b2) (G ((base 15).at a [.inRegion ops4 [],.code (cAt ofC [1,1,1,1])]) cs) w:=by
 have hKl:∀b,K b->b<w.heap.size:=λb hb=>by grind
 have l1:=(ZgO.1 hb1).1;have l2:=(ZgO.1 hb2).1
 let X:Cx:=cxS Try.prog Sol.prog n0 K (λb=>b=b1\/b=b2)
 have hXP:∀ρ,(X.at ρ).P=Try.prog:=λρ=>Sol.sub.same.symm;have hmz:∀t,(X.mask w t).heap.size=n0:=λt=>by simp[Cx.mask,X,cxS]
 have hes:(fvs h x 4 0).map Ev.recv=fs.map λy=>.recv y.2:=by rw[<-hev,Zj5];rfl
 have hOK:∀b,(b=b1\/b=b2)->¬K b:=λb hb=>by grind
 have hw:=ZaW X (Sol.sub.ok n0 K (λb=>b=b1\/b=b2)) (c:=c) (es:=(fvs h x 4 0).map .recv++[.closed zF]) (fr:=(base 15).at a [.inRegion ops4 [],.code (cAt ofC [1,1,1,1])]) (cs:=[]) (ds:=cs) (main:=true) (wc:=w)
  (λe he=>by
   rcases Zh9.1 he with he|he
   ·obtain⟨v,hv,rfl⟩:=ZgX.1 he;obtain⟨q,o,hq,rfl⟩:=Z0i hv;exact⟨Z91 (hx q (by omega)) o,hc⟩
   ·have:e=.closed zF:=by simpa using he
    subst this;exact⟨λρ _=>by simp_all[zF,Ye,ren],hc⟩)
  (λρ=>by
   refine⟨⟨λi hi=> ?_,λd hd'=> ?_,.inl rfl,.inr (.inr ⟨_,_,ZcZ,Try.func15,rfl⟩)⟩,λf hf=>by simp at hf,rfl⟩
   ·have:i=.inRegion ops4 []\/i=.code (cAt ofC [1,1,1,1]):=by simpa[Frame.at]using hi
    rcases this with rfl|rfl
    ·exact Zar
    ·exact ZaF
   ·rw[show((base 15).at a [.inRegion ops4 [],.code (cAt ofC [1,1,1,1])]).defers=a.defers from rfl,hd]at hd';simp at hd')
  (λf hf=>by
   have:f=(base 15).at a [.inRegion ops4 [],.code (cAt ofC [1,1,1,1])]:=by simpa using hf
   subst this;intro ρ hρ;simp only[renF,Frame.at,VP hfT ρ hρ,hd];rfl)
  (λb o ho hO=>by
   rcases hO with hO|hO
   ·rcases hO with rfl|rfl
    ·rw[hb1]at ho;cases ho;exact hKf _ _ _ _ hb1
    ·rw[hb2]at ho;cases ho;exact hKf _ _ _ _ hb2
   ·obtain⟨cs,e,fr,he⟩:=hK b hO;rw[ho]at he;cases he;exact hKf _ _ _ _ ho)
  (Post:=λwl=>Zbe (base 15) (λw' b=>K b\/(B<=b/\b<w'.heap.size)) (XD (fin.gr h.roots)))
  (λt=>by
   rw[hes]
   have hrm:∀ {y:V} {v:Value},Rd w K y v->NoM y->Rd (X.mask w t) K y v:=λ{y v} h1 h2=>by
    clear hfs
    induction h1 with
    |int k n=>exact .int k n
    |bool b=>exact .bool b
    |str s=>exact .str s
    |nil a cap h=>exact .nil a cap h
    |sl l b o cap k vs q1 q2 hb hf hc' _ ih=>
     cases h2 with
     |sl _ hm=>exact .sl l b o cap k vs q1 q2 hb hf (λi hi=>TW (λho=>hOK b ho hb) (λc e fr _=>hb) hn0 (hc' i hi)) λi c hi=>ih i c hi (hm c (TL hi))
    |agg cs vs q1 q2 _ ih=>
     cases h2 with
     |agg _ hm=>exact .agg cs vs q1 q2 λi c hi=>ih i c hi (hm c (ZgQ hi))
    |tup l vs q1 _ ih=>
     cases h2 with
     |tup _ hm=>exact .tup l vs q1 λi c hi=>ih i c hi (hm c (ZgQ hi))
    |ptr cs b o vs hb q1 hc' _ ih=>
     cases h2 with
     |ptr _ hm=>exact .ptr cs b o vs hb q1 (λi hi=>TW (λho=>hOK b ho hb) (λc e fr _=>hb) hn0 (hc' i hi)) λi c hi=>ih i c hi (hm c (ZgQ hi))
    |fn f=>exact .fn f
    |clo f cs vs q1 _ ih=>
     cases h2 with
     |clo _ _ hm=>exact .clo f cs vs q1 λi c hi=>ih i c hi (hm c (ZgQ hi))
    |nul0=>exact .nul0
    |nul1=>exact .nul1
    |nomp=>cases h2
    |mp=>cases h2
   refine LS.regEnd (Zap (G:=K) (B:=B) (Z6s hsz hd t1 t2 t3 (Z2c hb1 (.inl rfl) (by show b1<n0;omega)) (Z2c hb2 (.inr rfl) (by show b2<n0;omega)) hB1 hB2 h12 k1 k2 (λb hb=>by grind) λj hj=>hrm (hr j hj) (Z81 _)) t4 rfl (λy hy=>hrm (hfs y hy).1 (hfs y hy).2) hn hfin hs))
 have hw:Play Try.prog true c K _ ((fvs h x 4 0).map .recv++[.closed zF]) (λb=>b=b1\/b=b2) (G ((base 15).at a [.inRegion ops4 [],.code (cAt ofC [1,1,1,1])]) ([]++cs)) w:=(hXP id)▸hw;refine hw.mono λO g w' ⟨ρ,t,fr',cs',wl',fc,cc,hg,hid,⟨hcs,a',todo,hfr,hd',v,hv,hvr⟩,hwv⟩=> ?_;subst hg hcs hfr;have htop:fc=renF ρ {(base 15).at a' todo with mode:=.returning}:=hwv.top;have hund:cc=cs:=hwv.under;subst hund;refine⟨fc,rfl,by rw[htop];rfl,by rw[htop];rfl,by rw[htop];show a'.defers.map _=_;grind,by rw[htop];rfl,λd=> ?_⟩;have hwr:(X.at ρ).WR wl' (w'.at d):=Zbj hwv.wr d;have hlook:=RC Try.f15 (a'.tmps.map (ren ρ));have hwd:wdR ((results Try.f15 (a'.tmps.map (ren ρ))).run Try.prog (w'.at d))=w'.at d:=hlook.world _
 have htold:=(T8 (X:=X.at ρ) (V:=[]) Try.f15 a'.tmps).run wl' (w'.at d) #[] hwr (λr hr=>by simp at hr)
  (λj hj=>by
   rw[hXP ρ]at hj;have e:(wdR ((results Try.f15 (a'.tmps.map (ren (X.at ρ).ρ))).run Try.prog (w'.at d))).drawn=(w'.at d).drawn:=ZhV World.drawn hwd;omega)
  (λj hj=>by
   rw[hXP ρ]at hj;have e:(wdR ((results Try.f15 (a'.tmps.map (ren (X.at ρ).ρ))).run Try.prog (w'.at d))).heap.size=(w'.at d).heap.size:=ZhV (λw=>w.heap.size) hwd;omega)
 have h5':(results Try.f15 a'.tmps).run (X.at ρ).Q wl'=.ok v wl':=hv;rw[h5',hXP ρ]at htold;obtain⟨b,wc',es',he,hb',haf⟩:=htold
 have hrun:(results Try.f15 (a'.tmps.map (ren ρ))).run Try.prog (w'.at d)=.ok b wc':=by
  have:=ZhV Prod.fst he;rw[Zip]at this;exact this
 have hwc:wc'=w'.at d:=by
  have:=hwd;rw[hrun]at this;exact this
 subst hwc;have hb'':b=ren ρ v:=hb';refine⟨b,by rw[htop];exact hrun,?_⟩;rw[hb''];refine(Zfy (Z9l hwr hvr (qN _).m) (qN _)).mono λb' hb1'=> ?_;obtain⟨⟨z,hz,rfl⟩,hlt⟩:=hb1';refine⟨?_,hlt⟩;by_cases hzn:z<n0
 ·have e:(X.at ρ).ρ z=z:=hid z hzn
  grind
 ·rcases hz with hz|hz
  ·grind
  ·right;have:=hwv.new z (Nat.le_of_not_lt hzn) hz.2;omega
def foP(h:Hp)(p:Nat)(o:Ob):Fo:=⟨o,(ZI (layH h) ((p:Int)+1) o.at_).1,((lsH h p).drop (o.at_+1).toNat).take o.size.toNat⟩
def fos(h:Hp):Nat->Nat->List Fo
 |0,_=>[]
 |n+1,p=>(obP h p).map (foP h p)++fos h n (p+1)
def frs(h:Hp)(x:Nat->Value):Nat->Nat->List (Fo×Value)
 |0,_=>[]
 |n+1,p=>(obP h p).map (λo=>(foP h p o,fvV h x p o))++frs h x n (p+1)
def Z0h(h:Hp)(x:Nat->Value):∀(n p:Nat),(frs h x n p).map (·.1)=fos h n p
 |0,p=>rfl
 |n+1,p=>by simp_all[frs,fos,ZhU,Zj5,Z0h]
def Z55(h:Hp)(x:Nat->Value):∀(n p:Nat),(frs h x n p).map (·.2)=fvs h x n p
 |0,p=>rfl
 |n+1,p=>by simp_all[frs,fvs,ZhU,Zj5,Z55]
def Z54{h:Hp}{x:Nat->Value}{y:Fo×Value}:∀ {n p:Nat},y∈frs h x n p->∃q o,q<p+n/\o∈obP h q/\y=(foP h q o,fvV h x q o)
 |0,p,hv=>by simp[frs]at hv
 |n+1,p,hv=>by
  simp only[frs,Zh9,ZgX]at hv;rcases hv with ⟨o,ho,rfl⟩|hv
  ·exact⟨p,o,by omega,ho,rfl⟩
  ·obtain⟨q,o,h1,h2⟩:=Z54 hv;exact⟨q,o,by omega,h2⟩
def YD(h:Hp):Vw:=(fos h 4 0).foldl Vw.put ⟨[],[],[]⟩
def ofR(h:Hp):V:=if Yq h=true then XD ((YD h).gr h.roots)else .tup [grV noGr,vi 1]
structure OfOk (h:Hp):Prop where
 ob:∀p,p<4->(obP h p).length<=1000000/\∀o∈obP h p,0<=o.at_/\0<=o.size/\o.at_+1+o.size<=(lsH h p).length
 n:(fos h 4 0).length<=4000000
 sm:(YD h).sm h.roots
def Zds{w:World}{K:Nat->Prop}{l:List Int}{v:Value}(h:Rd w K (.sl (l.map vu)) v){lo n:Nat}(h0:0<l.length)(hn:lo+n<=l.length):Rd w K (.sl (((l.drop lo).take n).map vu)) (sliV v lo n):=by
 generalize hL:l.map vu=L at h;have hlen:L.length=l.length:=by rw[<-hL,Zhu]
 cases h with
 |nil a cap hc=>simp_all
 |sl _ b o cap k vs h1 h2 h3 h4 h5 h6=>
  have hk:k=1:=by
   have hm:vu (l[0]'h0)∈L:=by rw[<-hL];exact List.mem_map_of_mem (ZgZ h0)
   have:=(h4 _ hm).1;simpa[vu,V.cells]using this.symm
  subst hk;unfold sliV;dsimp only;have hl2:(((l.drop lo).take n).map vu).length=n:=by simp;omega
  by_cases hz:n=0
  ·subst hz;simp only[ZkK,ZiL];exact .nil _ _ (by omega)
  ·rw[if_neg (by omega)]
   have:=Rd.sl (w:=w) (G:=K) (((l.drop lo).take n).map vu) b (o+lo) (cap-lo) 1 (λi=>vs (lo+i)) (by omega) (by omega) h3 (λx hx=>by grind)
    (λi hi=>by grind)
    (λi c hi=>by
     rw[YG λx hx=>by obtain⟨y,_,rfl⟩:=ZgX.1 hx;rfl,Zh2,Zhm]at hi;split at hi
     ·rw[Zht]at hi;exact h6 (lo+i) c (by rw[<-hL,YG λx hx=>by obtain⟨y,_,rfl⟩:=ZgX.1 hx;rfl,Zh2];exact hi)
     ·cases hi)
   simp_all
def ZcR(f:Fo):NoM (foV f):=.agg _ λc hc=>by
 simp only[Zh0,Zia,Zjx]at hc;rcases hc with rfl|rfl|rfl|rfl|rfl|rfl|rfl
 all_goals first|exact .int _ _|exact .bool _|exact Z81 _
def Zcx{w:World}{K:Nat->Prop}{h:Hp}{x:Nat->Value}(hk:OfOk h)(hr:∀j,j<5->Rd w K (.sl ((lsH h j).map vu)) (x j)):∀y∈frs h x 4 0,Rd w K (foV y.1) y.2/\NoM (foV y.1):=by
 intro y hy;obtain⟨q,o,hq,ho,rfl⟩:=Z54 hy;refine⟨?_,ZcR _⟩;obtain⟨h1,h2,h3⟩:=(hk.ob q (by omega)).2 o ho;refine .agg _ _ rfl (by simp) λi c hi=> ?_
 match i,hi with
 |0,hi=>cases hi;exact .int _ _
 |1,hi=>cases hi;exact .int _ _
 |2,hi=>cases hi;exact .int _ _
 |3,hi=>cases hi;exact .bool _
 |4,hi=>cases hi;exact .int _ _
 |5,hi=>cases hi;exact .int _ _
 |6,hi=>cases hi;exact Zds (hr q (by omega)) (by omega) (by omega)
noncomputable def cB:Ctx:= {P:=bes Try.prog,ix:=(vf (bes Try.prog)).ix,own:=λ_=>false,fresh,sig:=sigV,tr:=[3],n:=82}
def Z1H{P:Program}:∀ {c:Code},Ki P c=true->Tt (Lg.fit (bes P)) c:=by
 intro c
 induction c with
 |region id ops d=>exactλh o ho=>(ZiF.1 h) o ho
 |seq x y hx hy=>intro h;simp only[Ki,ZgM]at h;exact⟨hx h.1,hy h.2⟩
 |cond c x y hx hy=>intro h;simp only[Ki,ZgM]at h;exact⟨hx h.1,hy h.2⟩
 |block id x hx=>exact hx
 |loop x hx=>exact hx
 |scope x hx=>exact hx
 |_=>intro h;first|trivial|cases h
def Qa:(bes Try.prog).follows .mixedOrders=true:=by kernel_rfl
def qR{code:Code}{S:SS}{st:Stm}{fl:Flow}{B:Nat}{G Kf:Nat->Prop}{s:St}{a:Act}{w w0:World}{T0:Array Value}{N:St->Prop}{X:Nat->St->Prop}{Rt:St->Prop}(hf:Ki Try.prog code=true)(hc:comp (vf (bes Try.prog)) code S=some (st,fl))(hr:RelS Kf [4,23] T0 cB B G w0 82 s a w S)(hw:wpS (bes Try.prog) st s N X Rt):
  wpB Try.prog code (Post Kf [4,23] T0 cB B G w0 82 fl N X Rt) a w:=
 letI:Lg (vf (bes Try.prog)).P:=besI Try.prog
 Sy (fc:=vf (bes Try.prog)) Qa (λp hp q hq he=>Z16 (Zir _ hp) (Zir _ hq) he) rfl rfl rfl (ZgP _) code (Z1H hf) hc hr hw
def ZcX:Try.f15.body=some ofC:=by kernel_rfl
def Zao:ofC=.seq (cAt ofC [0]) (.seq (cAt ofC [1,0]) (.seq (cAt ofC [1,1,0]) (.seq (cAt ofC [1,1,1,0]) (cAt ofC [1,1,1,1])))):=by kernel_rfl
noncomputable def ops3:Array Oper:=Z6a (cAt ofC [1,1,0])
def Zft:cAt ofC [1,1,0]=.region 3 ops3 false:=by kernel_rfl
def Zfu:cAt ofC [1,1,1,0]=.region 4 ops4 false:=by kernel_rfl
def Zd5:∃o,ops3[0]?=some o/\o.guard=none/\o.dst=some 18/\o.op=.makeChan 81 (.const (.int .i64 0)):=⟨_,rfl,rfl,rfl,rfl⟩
def Zd6:∃o,ops3[1]?=some o/\o.guard=none/\o.dst=some 4/\o.op=.assign (.tmp 18):=⟨_,rfl,rfl,rfl,rfl⟩
def Zd7:∃o,ops4[0]?=some o/\o.guard=none/\o.dst=some 19/\o.op=.load 37 (.tmp 1):=⟨_,rfl,rfl,rfl,rfl⟩
def Zd8:∃o,ops4[1]?=some o/\o.guard=none/\o.dst=some 20/\o.op=.move (.tmp 4):=⟨_,rfl,rfl,rfl,rfl⟩
def Zd9:∃o ats,ops4[2]?=some o/\o.guard=none/\o.dst=none/\o.op=.go ⟨.value (.func 42), #[.tmp 19,.tmp 20],ats⟩:=⟨_,_,rfl,rfl,rfl,rfl⟩
def qX:ops3.size=2/\ops4.size=3:=⟨rfl,rfl⟩
def Z7r:∃d inf,Try.prog.underlying 81=some (.chan d 87)/\Try.prog.info? 87=some inf:=⟨_,_,rfl,rfl⟩
def Z7m{B:Nat}{w w':World}(h:Below B w w')(d:Nat):Below B w (w'.at d):=⟨h.os,h.tape,h.output,h.size,h.block⟩
def Z9S{b:Frame}{k:List Item}{cs:List Frame}{a:Act}{hv:Value}{c:Nat}(hk:b.kind≠.early)(h19:a.tmps[19]?=some hv)(h20:a.tmps[20]?=some (.chan (some c)))(w:World):
  stepG Try.prog true (G (b.at a (.inRegion ops4 [2]::k)) cs) w=.spawn (G (b.at a (.inRegion ops4 []::k)) cs) (born Try.prog {target:=.fn (.func 42) #[],args:=#[hv,.chan (some c)]}) w #[]:=by
 obtain⟨o,ats,o1,o2,o3,o4⟩:=Zd9;have e1:=Act.eval_tmp a 19 _ h19;have e2:=Act.eval_tmp a 20 _ h20
 have e0:execOp a.eval o=(pure (.spawn {target:=.fn (.func 42) #[],args:=#[hv,.chan (some c)]}):Sem Next):=by
  unfold execOp;simp only[o4];simp[resolve,Deferred.ofValue,Act.eval,h19,h20]
 have:=stepG_spawn (P:=Try.prog) (main:=true) (b:=b) (a:=a) (k:=k) (cs:=cs) (w:=w) (i:=2) (rest:=[]) o1 (by simp[Region.wanted,o2]) hk (by rw[e0];rfl) rfl;rw[o3]at this;rw[this];unfold listed;rw[e0];rfl
def Z85{h:Hp}{B:Nat}{G:Nat->Prop}{s:St}{a:Act}{w w0:World}{T0:Array Value}(hr:RelS G [4,23] T0 cB B G w0 82 s a w rXN)(q1:get s 1=.m [vu h.base,vi h.cap,vi h.to,.bool h.cycle,vi h.scan,.sl (h.low.map vu),.sl (h.high.map vu),.sl (h.old.map vu),.sl (h.far.map vu),.sl (h.roots.map vu)])(q3:get s 3=.v (vi 0)):
  ∃(F:Nat->Prop) (b1 b2:Nat) (T1 T2:TypeId) (x:Nat->Value),(∀b,F b->G b\/B<=b)/\¬F b1/\¬F b2/\B<=b1/\B<=b2/\b1≠b2/\B<=w.heap.size/\a.tmps[1]?=some (.pointer (some ⟨b1,0,none⟩))/\a.tmps[2]?=some (.pointer (some ⟨b2,0,none⟩))/\a.tmps[3]?=some (.int .i64 0)/\
   w.heap[b1]?=some (.cells #[.int .u64 h.base,.int .i64 h.cap,.int .i64 h.to,.bool h.cycle,.int .i64 h.scan,x 0,x 1,x 2,x 3,x 4] T1 (0,0))/\w.heap[b2]?=some (.cells #[.slice none 0 0,.slice none 0 0] T2 (0,0))/\
   (∀j,j<5->Rd w F (.sl ((lsH h j).map vu)) (x j)):=by
 obtain⟨⟨h1,k1,k2⟩,k3,k4,k5,k6⟩:=hr;have i1:cB.ix 1=1:=by decide+kernel
 have i3:cB.ix 3=3:=by decide+kernel
 obtain⟨u1,t1,b1,vs1,T1,f1,rfl,f3,f4⟩:=k1.at_ 1 (by rw[Zk];exact Y4 _) (by rfl);obtain⟨u2,t2,b2,vs2,T2,g1,rfl,g3,g4⟩:=k1.at_ 2 (by rw[Zk];exact Y4 _) (by rfl);obtain⟨u3,t3,hk3⟩:=k1.at_ 3 (by rw[Zk];exact Y4 _) (by rfl);obtain⟨y3,hy3,hr3⟩:∃y,eval s (.s (cB.ix 3))=some y/\Rd w (h1.ext []) y u3:=hk3;rw[i3]at hy3;simp only[eval,q3,ZgH]at hy3;subst hy3;have e3:=Vn hr3;subst e3;have hs1:vs1.size=10:=f4.1;have hs2:vs2.size=2:=g4.1
 have hc:∀(i:Nat) (y:V),[vu h.base,vi h.cap,vi h.to,.bool h.cycle,vi h.scan,.sl (h.low.map vu),.sl (h.high.map vu),.sl (h.old.map vu),.sl (h.far.map vu),.sl (h.roots.map vu)][i]?=some y->Rd w h1.F y (vs1.getD i undef):=λi y hi=>by
  have hi10:i<10:=(ZgL.1 hi).1
  have:=f4.2 i (.fz,.m (cB.ix 1) i) (by
   match i,hi10 with
   |0,_=>rfl
   |1,_=>rfl
   |2,_=>rfl
   |3,_=>rfl
   |4,_=>rfl
   |5,_=>rfl
   |6,_=>rfl
   |7,_=>rfl
   |8,_=>rfl
   |9,_=>rfl
   |i+10,h=>omega)
  obtain⟨z,z1,z2,z3⟩:=this;rw[i1]at z1;simp only[eval,q1,hi,ZgS]at z1;obtain⟨rfl,_⟩:=X5 z1;exact z3
 have hn:∀i,i<2->vs2.getD i undef=.slice none 0 0:=λi hi=>by
  have:=g4.2 i (.nil,.m (cB.ix 2) i) (by
   grind)
  exact this.1
 have ev1:vs1=#[.int .u64 h.base,.int .i64 h.cap,.int .i64 h.to,.bool h.cycle,.int .i64 h.scan,vs1.getD 5 undef,vs1.getD 6 undef,vs1.getD 7 undef,vs1.getD 8 undef,vs1.getD 9 undef]:=by
  refine Zks (by omega) λi q w'=> ?_;have hi:i<10:=by simpa using w'
  have e:vs1[i]=vs1.getD i undef:=by simp[Array.getD,q]
  rw[e]
  match i,hi with
  |0,_=>exact Vn (hc 0 _ rfl)
  |1,_=>exact Vn (hc 1 _ rfl)
  |2,_=>exact Vn (hc 2 _ rfl)
  |3,_=>exact Z2r (hc 3 _ rfl)
  |4,_=>exact Vn (hc 4 _ rfl)
  |5,_=>rfl
  |6,_=>rfl
  |7,_=>rfl
  |8,_=>rfl
  |9,_=>rfl
  |i+10,h=>omega
 have ev2:vs2=#[.slice none 0 0,.slice none 0 0]:=by
  refine Zks (by omega) λi q w'=> ?_;have hi:i<2:=by simpa using w'
  have e:vs2[i]=vs2.getD i undef:=by simp[Array.getD,q]
  rw[e,hn i hi]
  match i,hi with
  |0,_=>rfl
  |1,_=>rfl
  |i+2,h=>omega
 obtain⟨m1,m2,m3⟩:=k1.ok.b_lt 1 0 b1 f1;obtain⟨n1,n2,n3⟩:=k1.ok.b_lt 2 0 b2 g1;refine⟨h1.F,b1,b2,T1,T2,λj=>vs1.getD (5+j) undef,k1.ok.f_or,m3,n3,m1,n1,λe=> ?_,k1.ok.base,t1,t2,t3,by grind,by grind,λj hj=> ?_⟩
 ·grind
 ·match j,hj with
  |0,_=>exact hc 5 _ rfl
  |1,_=>exact hc 6 _ rfl
  |2,_=>exact hc 7 _ rfl
  |3,_=>exact hc 8 _ rfl
  |4,_=>exact hc 9 _ rfl
  |j+5,h=>omega
def Zbg{h:Hp}(hh:h.ok)(hk:Yq h=true->OfOk h):VC (bes Try.prog) 15 false [hpV h] (ofR h):=by
 refine⟨by kernel_rfl,λw G vs hG hsz hrd cs Stop hK=> ?_⟩;have hright:VC (bes Try.prog) 25 false [hpV h] (.bool (Yq h)):=Z5B Sol.sub (ZeL hh) (λy hy=>by rw[ZhJ.1 hy];exact Z5Z h) (.bool _);have hs1:vs.size=1:=hsz;have hv0:Rd w G (hpV h) (vs.getD 0 undef):=hrd 0 _ rfl
 have hent:Frame.enter Try.prog 15 vs .normal=(base 15).at {tmps:=vs++Array.replicate (82-vs.size) undef,defers:=[]} [.code ofC]:=by
  rw[enter_at vs Try.func15 ZcX,Try.ntmps15]
 show Walk Try.prog Stop (Frame.enter Try.prog 15 vs .normal) cs w;rw[hent,Zao];clear hent;have i0:cB.ix 0=0:=by decide+kernel
 generalize ha0:({tmps:=vs++Array.replicate (82-vs.size) undef,defers:=[]}:Act)=a0
 have t0:a0.tmps[0]?=some (vs.getD 0 undef):=by
  rw[<-ha0];simp only;rw[ZiB (by omega)];simp[ZgN,hs1]
 have hr0:RelS G [4,23] a0.tmps cB w.heap.size G w 82 [.v (hpV h)] a0 w r0S:=by
  refine⟨⟨{F:=G,bl:=λ_ _=>none,K:=G},⟨⟨ZgP _,hG,λb hb=>.inl hb,λb hb=>hb,λt i b hb=>(by cases hb),λt i u j b hb=>(by cases hb),hG,λt i b hb=>(by cases hb),λb hb=>.inl hb⟩,λt _ hk=> ?_,λt hh=> ?_⟩,rfl⟩,λp hp=> ?_,.refl _ _,by rw[<-ha0];simp[hs1],by rw[<-ha0]⟩
  ·rw[Zk]at hk⊢;by_cases e:t=0
   ·subst e;exact⟨_,t0,hpV h,by rw[i0];rfl,hv0.mono λb hb=>.inl hb⟩
   ·simp[r0S,SS.at,ZiO e,TK.isNo]at hk
  ·refine absurd ?_ hh;rw[Zk];split<;>exact Y4 _
  ·simp only[r0S,SS.at]at hp;split at hp<;>cases hp
 refine .two (qR (by kernel_rfl) r0c hr0 (N:=λs'=>get s' 1=.m [vu h.base,vi h.cap,vi h.to,.bool h.cycle,vi h.scan,.sl (h.low.map vu),.sl (h.high.map vu),.sl (h.old.map vu),.sl (h.far.map vu),.sl (h.roots.map vu)]/\get s' 2=.m [.sl [],.sl []]/\get s' 3=.v (vi 0)) (X:=λ_ _=>False) (Rt:=λ_=>False) (by simp[r0]) (base 15) _ cs Stop (by simp[base]) λe a1 w1 hp=> ?_);cases e with
 |exit id=>obtain⟨_,_,_,h,_⟩:=hp;exact h.elim
 |ret=>obtain⟨_,_,_,h,_⟩:=hp;exact h.elim
 |normal=>
  obtain⟨s1,S1,hS1,⟨q1,q2,q3⟩,hr1⟩:=hp;cases hS1;have hb1:Below w.heap.size w w1:=hr1.2.2.1.below;refine .two (qR (by kernel_rfl) rXc hr1.base (N:=λs'=>Yq h=true/\get s' 1=get s1 1/\get s' 3=get s1 3) (X:=λ_ _=>False) (Rt:=λs'=>Yq h=false/\resV s' [(2,.ag 2),(3,.v)]=some (.tup [grV noGr,vi 1])) ?_ (base 15) _ cs Stop (by simp[base]) λe a2 w2 hp=> ?_)
  ·simp[rX,q1];refine Z1 hright (by simp) ?_;cases hrr:Yq h
   ·simp[Zo,resV,Sa,JP,noGr,grV]
   ·simp[Zo,q1]
  ·cases e with
   |exit id=>obtain⟨_,_,_,h,_⟩:=hp;exact h.elim
   |ret=>
    obtain⟨s2,S2,hS2,⟨e1,e2⟩,hr2⟩:=hp;have hS2:S2=rXR:=by simpa using hS2
    subst hS2;have hb2:Below w.heap.size w w2:=hb1.trans hr2.2.2.1.below;intro todo;refine hK _ w2 rfl ⟨rfl,hr2.2.2.2.2,rfl,_,Try.func15,λd=> ?_⟩;obtain⟨⟨h2,k1,k2⟩,k3,k4,k5,k6⟩:=hr2.sim d
    obtain⟨v,hv,hvr⟩:=WT (c:=cB) (f:=Try.f15) (D:=λb=>(false=false/\G b)\/(w.heap.size<=b/\b< (w2.at d).heap.size)) k1 k3 (λb hb=>by
     rcases k1.ok.f_or b hb with h1|h1
     ·exact .inl ⟨rfl,h1⟩
     ·exact .inr ⟨h1,k1.ok.f_lt b hb⟩) (λr hr=>⟨ZgT.1 (show(Try.f15.results.toList.all (qU (bes Try.prog) rXR))=true by kernel_rfl) r hr,λi b hb=>.inr ⟨(k1.ok.b_lt _ _ b hb).1,(k1.ok.b_lt _ _ b hb).2.1⟩⟩) (x:=.tup [grV noGr,vi 1]) (by rw[<-e2];exact ZhV (resV s2) (by kernel_rfl))
    refine⟨v,hv,v,rfl,Z7m hb2 d,?_⟩;unfold ofR;rw[if_neg (by rw[e1];simp)];exact hvr
   |normal=>
    obtain⟨s2,S2,hS2,⟨e1,e2,e3⟩,hr2⟩:=hp;cases hS2;have hb2:Below w.heap.size w w2:=hb1.trans hr2.2.2.1.below;have hok:=hk e1;obtain⟨F,b1,b2,T1,T2,x,hF,nF1,nF2,hB1,hB2,h12,hBw,t1,t2,t3,hw1,hw2,hrx⟩:=Z85 (h:=h) hr2 (e2.trans q1) (e3.trans q3);have hsz2:a2.tmps.size=82:=hr2.2.2.2.1;have hd2:a2.defers=[]:=hr2.2.2.2.2;have l1:=(ZgO.1 hw1).1;have l2:=(ZgO.1 hw2).1;obtain⟨o,o1,o2,o3,o4⟩:=Zd5;obtain⟨o',p1,p2,p3,p4⟩:=Zd6;obtain⟨dir,inf,hty,hinf⟩:=Z7r;refine .two ?_;rw[Zft];refine .region ?_;rw[qX.1,show List.range 2=[0,1]from rfl];refine Walk.chan (i:=0) o1 (by simp[Region.wanted,o2]) (by simp[base]) o4 hty hinf ?_;rw[o3];generalize hc:w2.heap.size=c;obtain⟨w3,hw3⟩:∃w3,w3=w2.alloc (.chan 0 #[] false 0 0 false):=⟨_,rfl⟩;rw[<-hw3];have ev18:((a2.put (some 18) (.chan (some c))).eval (.tmp 18))=.chan (some c):=Act.eval_tmp _ 18 _ (US (by omega));refine Walk.val (i:=1) (v:=.chan (some c)) p1 (by simp[Region.wanted,p2]) (by simp[base]) (by rw[p4];rfl) (λw' _=>by unfold execOp;simp only[p4,ev18];rfl) (.regEnd ?_);rw[p3];have z3:w3.heap.size=c+1:=by rw[hw3,<-hc];simp
    have hch:w3.heap[c]?=some (.chan 0 #[] false 0 0 false):=by rw[hw3,<-hc];exact Zhv ..
    have ho3:∀b,b<c->w3.heap[b]?=w2.heap[b]? :=λb hb=>by rw[hw3];exact ZhQ _ _ _ (by omega)
    have hb3:Below w.heap.size w w3:=by rw[hw3];exact hb2.alloc (by omega) _
    have m1:w3.heap[b1]?=_:=(ho3 b1 (by omega)).trans hw1;have m2:w3.heap[b2]?=_:=(ho3 b2 (by omega)).trans hw2;obtain⟨o0,a1',a2',a3',a4'⟩:=Zd7;obtain⟨o9,c1',c2',c3',c4'⟩:=Zd8;refine .two ?_;rw[Zfu];refine .region ?_;rw[qX.2,show List.range 3=[0,1,2]from rfl];generalize hA3:(a2.put (some 18) (.chan (some c))).put (some 4) (.chan (some c))=a3;have g1:a3.tmps[1]?=some (.pointer (some ⟨b1,0,none⟩)):=by rw[<-hA3,Yj (by omega),Yj (by omega)];exact t1
    have g4:a3.tmps[4]?=some (.chan (some c)):=by rw[<-hA3];exact US (by rw[Xr];omega)
    have gs:a3.tmps.size=82:=by rw[<-hA3,Xr,Xr];exact hsz2
    have ev1:a3.eval (.tmp 1)=.pointer (some ⟨b1,0,none⟩):=Act.eval_tmp _ 1 _ g1;refine Walk.val (i:=0) (v:=hpA h x) a1' (by simp[Region.wanted,a2']) (by simp[base]) (by rw[a4'];rfl) (λw' he=> ?_) ?_
    ·have hl:=Sf (P:=Try.prog) (w:=w') (T:=37) (by kernel_rfl) (by kernel_rfl) (b:=b1) (o:=0) [.int .u64 h.base,.int .i64 h.cap,.int .i64 h.to,.bool h.cycle,.int .i64 h.scan,x 0,x 1,x 2,x 3,x 4] (by kernel_rfl) (λi u hi=>by
      rw[Zhy,Zh3 w' b1 i _ T1 (0,0) (by rw[he];exact m1)];simpa using hi)
     unfold execOp;simp only[a4',ev1];rw[Zhf,hl];rfl
    rw[a3'];have ev4:(a3.put (some 19) (hpA h x)).eval (.tmp 4)=.chan (some c):=Act.eval_tmp _ 4 _ (by rw[Yj (by omega)];exact g4);refine Walk.val (i:=1) (v:=.chan (some c)) c1' (by simp[Region.wanted,c2']) (by simp[base]) (by rw[c4'];rfl) (λw' _=>by unfold execOp;simp only[c4',ev4];rfl) ?_;rw[c3'];generalize hA5:(a3.put (some 19) (hpA h x)).put (some 20) (.chan (some c))=a5;have u1:a5.tmps[1]?=some (.pointer (some ⟨b1,0,none⟩)):=by rw[<-hA5,Yj (by omega),Yj (by omega)];exact g1
    have u4:a5.tmps[4]?=some (.chan (some c)):=by rw[<-hA5,Yj (by omega),Yj (by omega)];exact g4
    have us:a5.tmps.size=82:=by rw[<-hA5,Xr,Xr];exact gs
    have u2:a5.tmps[2]?=some (.pointer (some ⟨b2,0,none⟩)):=by rw[<-hA5,Yj (by omega),Yj (by omega),<-hA3,Yj (by omega),Yj (by omega)];exact t2
    have u3:a5.tmps[3]?=some (.int .i64 0):=by rw[<-hA5,Yj (by omega),Yj (by omega),<-hA3,Yj (by omega),Yj (by omega)];exact t3
    have u19:a5.tmps[19]?=some (hpA h x):=by rw[<-hA5,Yj (by omega)];exact US (by omega)
    have u20:a5.tmps[20]?=some (.chan (some c)):=by rw[<-hA5];exact US (by rw[Xr];omega)
    have ud:a5.defers=[]:=by rw[<-hA5,<-hA3];exact hd2
    let K:Nat->Prop:=λb=>F b/\∃cs e fr,w3.heap[b]?=some (.cells cs e fr)
    have hrK:∀j,j<5->Rd w3 K (.sl ((lsH h j).map vu)) (x j):=λj hj=>by
     have h1:=ZaB (hrx j hj) (ZcU _);refine h1.keep (λb hb=>ho3 b ?_) λb hb=>⟨hb.1,?_⟩
     ·obtain⟨_,cs,e,fr,hb⟩:=hb;have:=(ZgO.1 hb).1;omega
     ·obtain⟨_,cs,e,fr,hb⟩:=hb;exact⟨cs,e,fr,by rw[ho3 b (by have:=(ZgO.1 hb).1;omega)];exact hb⟩
    obtain⟨n0,hn0,hfv,hfo⟩:=yP w3 (a5.tmps++ #[x 0,x 1,x 2,x 3,x 4])
    have hx:∀j,j<5->FixV n0 (x j):=λj hj=>by
     refine hfv _ (Zi9.2 (.inr ?_))
     match j,hj with
     |0,_=>simp
     |1,_=>simp
     |2,_=>simp
     |3,_=>simp
     |4,_=>simp
     |j+5,h=>omega
    have hcn:c<n0:=by omega
    have nK1:¬K b1:=λh=>nF1 h.1;have nK2:¬K b2:=λh=>nF2 h.1;have hKl:∀b,K b->b<w3.heap.size:=λb ⟨_,_,_,_,hb⟩=>(ZgO.1 hb).1;have nKc:¬K c:=λ⟨_,_,_,_,hb⟩=>by rw[hch]at hb;cases hb
    refine Walk.meet (KA:=K) (KB:=K) (OA0:=λb=>b=b1\/b=b2) (c:=c) (λw=>Z9S (by simp[base]) u19 u20 w)
     (Z5M (fs:=frs h x 4 0) (fin:=YD h) hh us ud u1 u2 u3 u4 m1 m2 (by omega) hB1 hB2 h12 nK1 nK2 hn0 hcn (λb hb=>hb.2) (λb cs e fr hb=>hfo b cs e fr hb) (λv hv=>hfv v (Zi9.2 (.inl hv))) hx hrK (Zcx hok hrK) (Z55 h x 4 0) (by
      have:=hok.n;rw[<-Z0h h x 4 0,Zhu]at this;exact this) (by rw[Z0h];rfl) hok.sm)
     (Z3i hh hn0 hcn (λb hb=>hb.2) (λb o ho hb=>by
      obtain⟨_,cs,e,fr,he⟩:=hb;rw[ho]at he;cases he;exact hfo b cs e fr ho) hx hrK hok.ob) hch (λb hb=>by rcases hb with rfl|rfl<;>omega) hKl hKl (λb hb=>by rcases hb with rfl|rfl<;>assumption) (λhb=>by rcases hb with hb|hb<;>omega) nKc nKc ?_
    rintro OA g w' ⟨fr,rfl,hfn,hm,hd,hkd,hres⟩ hsw htape hos hOA hfr;refine⟨fr,cs,rfl,hK fr w' hfn ⟨hm,hd,hkd,_,by rw[hfn];exact Try.func15,λd=> ?_⟩⟩;obtain⟨v,hv,hvr⟩:=hres d;refine⟨v,hv,v,rfl,⟨(ZhV Prod.fst hos).trans hb3.os,htape.trans hb3.tape,(ZhV Prod.snd hos).trans hb3.output,Zhc hb3.size hsw,λb hb=>(hfr b (by have:=hb3.size;omega) (λhb'=>by rcases hb' with rfl|rfl<;>omega) (by omega)).trans (hb3.block b hb)⟩,?_⟩;unfold ofR;rw[if_pos e1];refine hvr.mono λb hb=> ?_;obtain⟨hb,hlt⟩:=hb;rcases hb with hb|hb
    ·rcases hF b hb.1 with h1|h1
     ·exact .inl ⟨rfl,h1⟩
     ·exact .inr ⟨h1,hlt⟩
    ·exact .inr ⟨hb,hlt⟩
   |_=>exact hp.elim
 |_=>exact hp.elim
#print axioms Zbg
end Vm
end
section
namespace Vm
open Go Go.Proofs
def WM(l:List Ob):List (Int×Int):=(l.filter λo=>o.gone).map λo=>(o.size,o.ptrs)
def Z2L{ws:List Int}{shs:List (Int×Int)}{old:Bool}:∀(l:List Ob) (f a tk:Nat) (acc:List Ob),Tiles ws old a l->ws.length<f+a->0<f->shs.drop tk=WM l->Xe ws shs old f a tk acc=(acc++l,0)
 | [],f,a,tk,acc,ht,hf,h0,hs=>by
   obtain⟨f,rfl⟩:∃f',f=f'+1:=⟨f-1,by omega⟩;have:ws.length<=a:=ht;have h2:shs.length<=tk:=List.drop_eq_nil_iff.1 hs;rw[Xe,Zi1 this];simp only;rw[if_neg (by omega),ZhT]
 |o::l,f,a,tk,acc,ht,hf,h0,hs=>by
  obtain⟨f,rfl⟩:∃f',f=f'+1:=⟨f-1,by omega⟩;obtain⟨h1,h2,h3⟩:=ht;obtain⟨w,hw,hc⟩:=h2.word;have hsh:=Zf.1 h2.shape;have hfit:=h2.fits;have hsl:=h2.slots;rw[h1]at hw hfit hsl;simp only[Zhl]at hw hsl
  have hrec:∀tk':Nat,shs.drop tk'=WM l->Xe ws shs old f (a+1+o.size.toNat) tk' (acc++[o])=(acc++o::l,0):=λtk' hs'=>by
   rw[Z2L l f _ tk' _ h3 (by omega) (by omega) hs'];simp
  have hobj:∃tk',objR shs old a tk w=some (o,tk')/\shs.drop tk'=WM l:=by
   unfold objR;cases hg:o.gone
   ·rw[hg]at hc;simp only[ZgU,Zhr]at hc;rw[if_neg (λh=>hc.1 h.1 h.2),hc.2.1];refine⟨tk,?_,?_⟩
    ·simp only[Zhp];obtain⟨oa,os,op,og,ot⟩:=o;simp only at hg h1 hc⊢;rw[hg,h1,hc.2.2]
    ·rw[hs];simp[WM,hg]
   ·rw[hg]at hc;simp only[Zhp]at hc;rw[if_pos ⟨hc.1,hc.2.1⟩];have hd:shs.drop tk=(o.size,o.ptrs)::WM l:=by rw[hs];simp[WM,hg]
    have hlt:tk<shs.length:=by
     have:=ZhV List.length hd;simp at this;omega
    rw[ZhF hlt]at hd;have e1:=(List.cons.inj hd).1;have e2:=(List.cons.inj hd).2;rw[ZgJ hlt,e1];simp only[h2.shape,Zhp];refine⟨tk+1,?_,e2⟩;obtain⟨oa,os,op,og,ot⟩:=o;simp only at hg h1 hc⊢;rw[hg,h1,hc.2.2]
  obtain⟨tk',ho,hs'⟩:=hobj;rw[Xe,hw];simp only;rw[ho];simp only;rw[if_neg (by omega),if_neg (by rw[hsl];simp)];exact hrec tk' hs'
def Qv{ws:List Int}{shs:List (Int×Int)}{old:Bool}{l:List Ob}(ht:Tiles ws old 0 l)(hs:shs=WM l):Zw ws shs old=(l,0):=by
 unfold Zw;rw[Z2L l (ws.length+1) 0 0 [] ht (by omega) (by omega) (by simpa using hs),ZhM]
def KF(h:Hp)(low l:List Ob):Prop:=∀o∈l,o.gone=true->∃q,atR h 1 low o.target=some q/\q.size=o.size/\q.ptrs=o.ptrs
def Uz{h:Hp}{ws:List Int}{low:List Ob}:∀(l:List Ob) (f i:Nat) (acc:List (Int×Int)),Tiles ws true i l->ws.length<f+i->0<f->KF h low l->YC h ws low f i acc=some (acc++WM l)
 | [],f,i,acc,ht,hf,h0,hg=>by
   obtain⟨f,rfl⟩:∃f',f=f'+1:=⟨f-1,by omega⟩;have:ws.length<=i:=ht;rw[YC,Zi1 this];simp[WM]
 |o::l,f,i,acc,ht,hf,h0,hg=>by
  obtain⟨f,rfl⟩:∃f',f=f'+1:=⟨f-1,by omega⟩;obtain⟨h1,h2,h3⟩:=ht;obtain⟨w,hw,hc⟩:=h2.word;have hsh:=Zf.1 h2.shape;have hfit:=h2.fits;rw[h1]at hw hfit;simp only[Zhl]at hw;have hg':KF h low l:=λq hq=>hg q (Zhb _ hq);rw[YC,hw];simp only;cases hgo:o.gone
  ·rw[hgo]at hc;simp only[ZgU,Zhr,true_implies]at hc;rw[if_neg hc.1,hc.2.1];simp only[Zhp];rw[Uz l f _ acc h3 (by omega) (by omega) hg'];simp[WM,hgo]
  ·rw[hgo]at hc;simp only[Zhp,true_and]at hc;rw[if_pos hc.1];obtain⟨q,hq,e1,e2⟩:=hg o (.head _) hgo;rw[<-hc.2,hq];simp only;rw[e1,e2,Uz l f _ _ h3 (by omega) (by omega) hg'];simp[WM,hgo]
def Z2n{h:Hp}{p:Pts}(h1:Tiles h.low false 0 p.low)(h2:Tiles h.high false 0 p.high)(h3:Tiles h.old true 0 p.old)(h4:Tiles h.far true 0 p.far)(g3:KF h p.low p.old)(g4:KF h p.low p.far):Yd h=some p:=by
 have ng:∀ {ws:List Int} {a:Nat} {l:List Ob},Tiles ws false a l->WM l=[]:=λ{ws a l} ht=>by
  unfold WM;rw[List.map_eq_nil_iff,List.filter_eq_nil_iff];intro o ho hg;obtain⟨w,_,hc⟩:=(ht.stands o ho).1.word;rw[if_pos hg]at hc;cases hc.1
 unfold Yd;rw[Qv h1 (ng h1).symm,Qv h2 (ng h2).symm];unfold YS;simp only[ne_eq,not_true_eq_false,or_self,Zhr];rw[Uz p.old _ 0 [] h3 (by omega) (by omega) g3,Uz p.far _ 0 [] h4 (by omega) (by omega) g4];simp only[ZhM,Zhe];rw[Qv h3 rfl,Qv h4 rfl];simp
def Z2v{h:Hp}{p:Pts}(hn:numR h=true)(hp:Yd h=some p)(hr:Sb h p=true):Yq h=true:=by
 unfold Yq;rw[hn,hp];simpa using hr
def Z8V{h:Hp}{k:Int}{l:List Ob}{o:Ob}(ho:o∈l)(hd:∀q∈l,ZP h k q.at_=ZP h k o.at_->q=o):atR h k l (ZP h k o.at_)=some o:=by
 unfold atR
 induction l with
 |nil=>simp at ho
 |cons x l ih=>
  rw[ZjO];by_cases hx:ZP h k x.at_=ZP h k o.at_
  ·rw[hd x (.head _) hx];simp
  ·have:(ZP h k x.at_==ZP h k o.at_)=false:=by simpa using hx
   rw[this];rcases Zh0.1 ho with rfl|ho
   ·exact absurd rfl hx
   ·exact ih ho λq hq=>hd q (Zhb _ hq)
def Ss{h:Hp}{k:Int}{l:List Ob}{a:Int}:(atR h k l a).isSome=true↔ ∃o∈l,ZP h k o.at_=a:=by
 unfold atR;rw[List.find?_isSome];simp
section
structure Tld (h:Hp) (p:Pts):Prop where
 lay:Zl (layH h)=true
 tiles:∀k:Int,1<=k/\k<=4->Tiles (Zm h k) (decide (2<k)) 0 (p.at k)
def Gos(h:Hp)(p:Pts)(w one two:Int):Prop:=w=0\/∃k o,(k=one\/k=two)/\o∈p.at k/\w=refR (layH h) k o.at_
def yb(h:Hp)(p:Pts)(k:Int)(i:Nat)(w:Int):Prop:=if 2<k then Gos h p w 3 4 else if k=1/\h.scan<=i then Gos h p w 1 2\/Gos h p w 3 4 else Gos h p w 1 2
section
variable {h:Hp}{p:Pts}
theorem Tld.ob(t:Tld h p){k:Int}(hk:1<=k/\k<=4){o:Ob}(ho:o∈p.at k):∃a n m:Nat,o.at_=a/\o.size=n/\o.ptrs=m/\a+(n+1)<=(Zm h k).length/\n<=255/\m<=n:=by
 have hs:=((t.tiles k hk).stands o ho).1;have h1:=Zf.1 hs.shape;obtain⟨a,ha⟩:=Zh4 hs.nat;obtain⟨n,hn⟩:=Zh4 h1.1;obtain⟨m,hm⟩:=Zh4 h1.2.2.1;have:=hs.fits;exact⟨a,n,m,ha,hn,hm,by omega,by omega,by omega⟩
theorem Tld.start(t:Tld h p){k:Int}(hk:1<=k/\k<=4){o:Ob}(ho:o∈p.at k):ZP h k o.at_=fstL (layH h) k+o.at_:=by
 obtain⟨a,n,m,ha,_,_,hl,_⟩:=t.ob hk ho;unfold ZP;rw[Sq t.lay hk (by rw[WV hk];omega)]
theorem Tld.same_at(t:Tld h p){k:Int}(hk:1<=k/\k<=4){o q:Ob}(ho:o∈p.at k)(hq:q∈p.at k)(e:q.at_=o.at_):q=o:=by
 rcases(t.tiles k hk).apart q hq o ho with h1|h1|h1
 ·exact h1
 ·have:=Zf.1 ((t.tiles k hk).stands q hq).1.shape;omega
 ·have:=Zf.1 ((t.tiles k hk).stands o ho).1.shape;omega
theorem Tld.find(t:Tld h p){k:Int}(hk:1<=k/\k<=4){o:Ob}(ho:o∈p.at k):atR h k (p.at k) (fstL (layH h) k+o.at_)=some o:=by
 rw[<-t.start hk ho];refine Z8V ho λq hq e=>t.same_at hk ho hq ?_;rw[t.start hk ho,t.start hk hq]at e;omega
theorem Tld.inj(t:Tld h p){k j:Int}(hk:1<=k/\k<=4)(hj:1<=j/\j<=4){o q:Ob}(ho:o∈p.at k)(hq:q∈p.at j)(e:refR (layH h) k o.at_=refR (layH h) j q.at_):k=j/\o=q:=by
 obtain⟨a,n,m,ha,_,_,hl,_⟩:=t.ob hk ho;obtain⟨b,n',m',hb,_,_,hl',_⟩:=t.ob hj hq;obtain⟨e1,e2⟩:=Z8n t.lay hk hj (by rw[WV hk];omega) (by rw[WV hj];omega) e;subst e1;exact⟨rfl,t.same_at hk hq ho e2⟩
theorem Tld.adr(t:Tld h p){k:Int}(hk:1<=k/\k<=4){o:Ob}(ho:o∈p.at k):adr (refR (layH h) k o.at_)=(fstL (layH h) k+o.at_,0):=by
 obtain⟨a,n,m,ha,_⟩:=t.ob hk ho;exact Sr t.lay (by omega)
theorem Tld.at_iff(t:Tld h p){k:Int}(hk:1<=k/\k<=4){w:Int}(h0:(Vm.adr w).2=0):(atR h k (p.at k) (Vm.adr w).1).isSome=true↔ ∃o∈p.at k,w=refR (layH h) k o.at_:=by
 rw[Ss];constructor
 ·rintro⟨o,ho,e⟩;rw[t.start hk ho]at e;exact⟨o,ho,ZaX h0 e.symm⟩
 ·rintro⟨o,ho,rfl⟩;exact⟨o,ho,by rw[t.adr hk ho,t.start hk ho]⟩
theorem Tld.goes_iff(t:Tld h p){i j:Int}(hi:1<=i/\i<=4)(hj:1<=j/\j<=4){w:Int}:Xl h p w i j=true↔Gos h p w i j:=by
 unfold Xl Gos;by_cases h0:w=0
 ·simp[h0]
 by_cases h1:(Vm.adr w).2=0
 ·simp only[h0,h1,ZjV,ZkO,Zj8,Zkg,ZgW,false_or,t.at_iff hi h1,t.at_iff hj h1];constructor
  ·rintro(⟨o,ho,e⟩|⟨o,ho,e⟩)
   ·exact⟨i,o,.inl rfl,ho,e⟩
   ·exact⟨j,o,.inr rfl,ho,e⟩
  ·rintro⟨k,o,rfl|rfl,ho,e⟩
   ·exact .inl ⟨o,ho,e⟩
   ·exact .inr ⟨o,ho,e⟩
 ·simp only[h0,h1,ZkO,Bool.false_and,Bool.or_self,ZgU,false_or,false_iff];rintro⟨k,o,hk,ho,rfl⟩;have hk4:1<=k/\k<=4:=by rcases hk with rfl|rfl<;>assumption
  exact h1 (by rw[t.adr hk4 ho])
theorem RQ:∀ {l:List Int} {ptrs:Int} {i:Nat},ZV l true ptrs i=true->∀w∈l,w=0
 | [],_,_,_,w,hw=>by simp at hw
 |y::l,ptrs,i,hs,w,hw=>by
  simp only[ZV,ZgM]at hs;rcases Zh0.1 hw with rfl|hw
  ·have h1:=hs.1;simp at h1;exact h1.1
  ·exact RQ hs.2 w hw
theorem Tld.slot(t:Tld h p){k:Int}(hk:1<=k/\k<=4){o:Ob}(ho:o∈p.at k){j:Nat}(hj:(j:Int)<o.size):∃w,(Zm h k)[o.at_.toNat+1+j]?=some w/\(o.gone=true->w=0):=by
 obtain⟨a,n,m,ha,hn,hm,hl,_⟩:=t.ob hk ho;have hlt:a+1+j< (Zm h k).length:=by omega
 refine⟨(Zm h k)[a+1+j],by rw[ha,Zhl];exact ZgJ hlt,λhg=> ?_⟩;have hs:=((t.tiles k hk).stands o ho).1.slots;rw[hg]at hs;refine RQ hs _ ?_;rw[ha,hn,Zhl,Zhl];refine ZgQ (i:=j) ?_;rw[Zjk (by omega),Zht];exact ZgJ hlt
end
structure Body (h:Hp) (p:Pts):Prop extends Tld h p where
 gone:∀k:Int,3<=k/\k<=4->∀o∈p.at k,o.gone=true->∃q∈p.low,o.target=fstL (layH h) 1+q.at_/\q.size=o.size/\q.ptrs=o.ptrs
 ptr:∀k:Int,1<=k/\k<=4->∀o∈p.at k,o.gone=false->∀j:Nat,(j:Int)<o.ptrs->∀w,(Zm h k)[o.at_.toNat+1+j]?=some w->yb h p k (o.at_.toNat+1+j) w
 room:(h.low.length:Int)+h.high.length+Rh p<=h.cap
structure Rt (h:Hp) (p:Pts):Prop extends Body h p where
 nroots:h.roots.length<=16
 scan0:0<=h.scan
 scanL:h.scan<=h.low.length
 cyc:h.cycle=true->h.scan<h.low.length
 rest:h.cycle=false->h.scan=h.low.length/\h.old=[]/\h.far=[]
 once:h.cycle=true->∀o∈p.low,Z6U p (fstL (layH h) 1+o.at_)=1
 roots:∀w∈h.roots,Gos h p w 1 2
section
variable {h:Hp}{p:Pts}
theorem yc(t:Tld h p){k:Int}{i:Nat}{w:Int}(hw:(Zm h k)[i]?=some w):R3 h p k i=true↔yb h p k i w:=by
 unfold R3 yb;simp only[hw,Zhe];split
 ·exact t.goes_iff (by omega) (by omega)
 split
 ·rw[ZgW,t.goes_iff (by omega) (by omega),t.goes_iff (by omega) (by omega)]
 ·exact t.goes_iff (by omega) (by omega)
theorem Z2U(k:Int)(i:Nat):yb h p k i 0:=by
 unfold yb;split
 ·exact .inl rfl
 split
 ·exact .inl (.inl rfl)
 ·exact .inl rfl
theorem Z2q(t:Tld h p){k:Int}(hk:1<=k/\k<=4):WQ h p k=true↔ ∀o∈p.at k,o.gone=false->∀j:Nat,(j:Int)<o.ptrs->∀w,(Zm h k)[o.at_.toNat+1+j]?=some w->yb h p k (o.at_.toNat+1+j) w:=by
 unfold WQ Z2f;simp only[ZgT,ZiN];constructor
 ·intro hp o ho _ j hj w hw;exact(yc t hw).1 (hp o ho j (by omega))
 ·intro hp o ho j hj;obtain⟨a,n,m,ha,hn,hm,hl,_⟩:=t.ob hk ho;obtain⟨w,hw,hz⟩:=t.slot hk ho (j:=j) (by omega);refine(yc t hw).2 ?_;cases hg:o.gone
  ·exact hp o ho hg j (by omega) w hw
  ·rw[hz hg];exact Z2U _ _
theorem RightH.tld(r:RightH h p):Tld h p:=⟨r.lay,λk hk=>r.tiles hk⟩
theorem RightH.rt(r:RightH h p):Rt h p:=by
 have t:=r.tld;have hn:=r.num;have ho:=r.ok;unfold numR at hn;unfold Sb at ho;simp only[ZgM,Zh1]at hn ho;obtain⟨⟨⟨⟨n1,n2⟩,n3⟩,n4⟩,n5⟩:=hn;obtain⟨⟨⟨⟨⟨⟨o1,o2⟩,o3⟩,o4⟩,o5⟩,o6⟩,o7⟩:=ho
 have hptr:∀k:Int,1<=k/\k<=4->WQ h p k=true:=λk hk=>by
  have:k=1\/k=2\/k=3\/k=4:=by omega
  rcases this with rfl|rfl|rfl|rfl<;>assumption
 refine⟨⟨t,λk hk o ho hg=> ?_,λk hk=>(Z2q t hk).1 (hptr k hk),o7⟩,n2,n3,n4,λhc=> ?_,λhc=> ?_,λhc o ho=> ?_,λw hw=> ?_⟩
 ·obtain⟨q,hq,e,e1,e2⟩:=r.gone_low hk ho hg;exact⟨q,hq,by rw[<-e,t.start (k:=1) (by omega) hq],e1,e2⟩
 ·rw[hc]at n5;simpa using n5
 ·rw[hc]at n5;simp at n5;exact⟨n5.1.1,n5.1.2,n5.2⟩
 ·rw[hc]at o1;simp only[Zja,Zj8,ZgT]at o1;have:=o1 o ho;unfold tgOk at this;rw[t.start (k:=1) (by omega) ho]at this;simpa using this
 ·exact(t.goes_iff (by omega) (by omega)).1 (ZgT.1 o2 w hw)
theorem Rt.parts(r:Rt h p):Yd h=some p:=by
 have g:∀k:Int,3<=k/\k<=4->KF h p.low (p.at k):=λk hk o ho hg=>by
  obtain⟨q,hq,e,e1,e2⟩:=r.gone k hk o ho hg;exact⟨q,by rw[e];exact r.toTld.find (k:=1) (by omega) hq,e1,e2⟩
 exact Z2n (r.tiles 1 (by omega)) (r.tiles 2 (by omega)) (r.tiles 3 (by omega)) (r.tiles 4 (by omega)) (g 3 (by omega)) (g 4 (by omega))
theorem Rt.right(r:Rt h p):Yq h=true:=by
 have t:=r.toTld;refine Z2v ?_ r.parts ?_
 ·unfold numR;simp only[ZgM,Zh1];refine⟨⟨⟨⟨r.lay,r.nroots⟩,r.scan0⟩,r.scanL⟩,?_⟩;cases hc:h.cycle
  ·obtain⟨e1,e2,e3⟩:=r.rest hc;simp[e1,e2,e3]
  ·simp[r.cyc hc]
 ·unfold Sb;simp only[ZgM,Zh1];have hp:=λk hk=>(Z2q t hk).2 (r.ptr k hk);refine⟨⟨⟨⟨⟨⟨?_,?_⟩,hp 1 (by omega)⟩,hp 2 (by omega)⟩,hp 3 (by omega)⟩,hp 4 (by omega)⟩,r.room⟩
  ·cases hc:h.cycle
   ·rfl
   ·simp only[Zja,Zj8,ZgT];intro o ho;unfold tgOk;rw[t.start (k:=1) (by omega) ho,Zh1];exact r.once hc o ho
  ·rw[ZgT];exactλw hw=>(t.goes_iff (by omega) (by omega)).2 (r.roots w hw)
theorem jk:Yq h=true↔ ∃p,Rt h p:=
 ⟨λhr=>by obtain⟨p,r⟩:=Z6v hr;exact⟨p,r.rt⟩,λ⟨p,r⟩=>r.right⟩
theorem Rt.objs(r:Rt h p){k:Int}(hk:1<=k/\k<=4):Q0 h k=(p.at k,0):=by
 unfold Q0;rw[if_pos ⟨r.right,hk⟩,r.parts];rfl
theorem Rt.wait(r:Rt h p):Z4j h=Rh p:=by
 unfold Z4j;rw[if_pos r.right,r.parts];rfl
end
end
def szL(l:List Ob):Nat:=(l.map λo=>1+o.size.toNat).sum
def Tiles.sum{ws:List Int}{old:Bool}:∀ {a:Nat} {l:List Ob},Tiles ws old a l->a<=ws.length->a+szL l=ws.length
 |a,[],h,ha=>by have:ws.length<=a:=h;simp[szL];omega
 |a,o::l,h,ha=>by
  have hs:=Zf.1 h.2.1.shape;have hf:=h.2.1.fits;rw[h.1]at hf;have:=Tiles.sum h.2.2 (by omega);simp[szL]at this⊢;omega
section
section
variable {h:Hp}{p:Pts}
theorem Qn(h:Hp){q:Nat}(hq:q<4):Zm h ((q:Int)+1)=lsH h q:=by
 have:q=0\/q=1\/q=2\/q=3:=by omega
 rcases this with rfl|rfl|rfl|rfl<;>rfl
theorem Rt.obQ(r:Rt h p){q:Nat}(hq:q<4):obP h q=p.at ((q:Int)+1):=by
 unfold Vm.obP;rw[r.objs (by omega)]
theorem J7{f:Fo}:∀ {n q:Nat},f∈fos h n q->∃k o,q<=k/\k<q+n/\o∈obP h k/\f=foP h k o
 |0,q,hf=>by simp[fos]at hf
 |n+1,q,hf=>by
  simp only[fos,Zh9,ZgX]at hf;rcases hf with ⟨o,ho,rfl⟩|hf
  ·exact⟨q,o,by omega,by omega,ho,rfl⟩
  ·obtain⟨k,o,h1,h2,h3⟩:=J7 hf;exact⟨k,o,by omega,by omega,h3⟩
theorem zp{k:Nat}{o:Ob}(ho:o∈obP h k):∀ {n q:Nat},q<=k->k<q+n->foP h k o∈fos h n q
 |0,q,h1,h2=>by omega
 |n+1,q,h1,h2=>by
  simp only[fos,Zh9,ZgX];by_cases e:k=q
  ·subst e;exact .inl ⟨o,ho,rfl⟩
  ·exact .inr (zp ho (by omega) (by omega))
theorem Zdm(s:Vw)(f:Fo):(s.put f).ns=s.ns++if f.ob.gone then []else [f]:=by
 unfold Vw.put;split<;>simp
theorem Z53:∀(l:List Fo) (s:Vw),(l.foldl Vw.put s).ns=s.ns++l.filter λf=> !f.ob.gone
 | [],s=>by simp
 |f::l,s=>by
  rw[Zj4,Z53 l,Zdm];cases hg:f.ob.gone<;>simp[hg]
theorem Z1w(h:Hp):(YD h).ns=(fos h 4 0).filter λf=> !f.ob.gone:=by
 unfold YD;rw[Z53];rfl
theorem qO(r:Rt h p){q:Nat}(hq:q<4):(obP h q).length<=(lsH h q).length:=by
 have t:=r.tiles ((q:Int)+1) (by omega);have:=t.sum (ZhO _);rw[Qn h hq,<-r.obQ hq]at this
 have hle:(obP h q).length<=szL (obP h q):=by
  generalize obP h q=l
  induction l with
  |nil=>simp
  |cons o l ih=>simp only[szL,Zha,List.sum_cons,ZhL]at ih⊢;omega
 omega
theorem Rt.len4(r:Rt h p){q:Nat}(hq:q<4):(lsH h q).length<=4096:=by
 obtain⟨h1,h2,_,_,_,⟨_,_,h5,h6⟩,⟨_,_,h7,h8⟩⟩:=Ys.1 r.lay;simp only[layH]at*;have:q=0\/q=1\/q=2\/q=3:=by omega
 rcases this with rfl|rfl|rfl|rfl
 ·show h.low.length<=4096;omega
 ·show h.high.length<=4096;omega
 ·show h.old.length<=4096;omega
 ·show h.far.length<=4096;omega
theorem Rt.ob4(r:Rt h p){q:Nat}(hq:q<4){o:Ob}(ho:o∈obP h q):∃a n m:Nat,o.at_=a/\o.size=n/\o.ptrs=m/\a+(n+1)<=(lsH h q).length/\n<=255/\m<=n:=by
 rw[r.obQ hq]at ho;have:=r.toTld.ob (by omega) ho;rwa[Qn h hq]at this
theorem lsW(hh:h.ok){q:Nat}(hq:q<4):∀w∈lsH h q,U64 w:=by
 have:q=0\/q=1\/q=2\/q=3:=by omega
 rcases this with rfl|rfl|rfl|rfl
 ·exact hh.lowW
 ·exact hh.highW
 ·exact hh.oldW
 ·exact hh.farW
theorem Z0g(r:Rt h p){q:Nat}(hq:q<4){o:Ob}(ho:o∈obP h q):(foP h q o).sl.length=o.size.toNat:=by
 obtain⟨a,n,m,h1,h2,h3,h4,_⟩:=r.ob4 hq ho;simp only[foP,ZhY,ZiE];omega
theorem Rt.ofOk(r:Rt h p)(hh:h.ok):OfOk h:=by
 have hl:(fos h 4 0).length<=16384:=by
  have h0:=qO r (q:=0) (by omega);have h1:=qO r (q:=1) (by omega);have h2:=qO r (q:=2) (by omega);have h3:=qO r (q:=3) (by omega);have k0:=r.len4 (q:=0) (by omega);have k1:=r.len4 (q:=1) (by omega);have k2:=r.len4 (q:=2) (by omega);have k3:=r.len4 (q:=3) (by omega);simp only[fos,ZhZ,Zhu,Ziy,Zhy,Nat.reduceAdd];omega
 refine⟨λq hq=>⟨by have:=qO r hq;have:=r.len4 hq;omega,λo ho=> ?_⟩,by omega,⟨?_,λf hf=> ?_,by have:=r.nroots;omega,hh.rootsW⟩⟩
 ·obtain⟨a,n,m,h1,h2,h3,h4,_⟩:=r.ob4 hq ho;omega
 ·rw[Z1w];have:=ZkA (λf:Fo=> !f.ob.gone) (fos h 4 0);omega
 ·rw[Z1w]at hf;obtain⟨k,o,_,hk,ho,rfl⟩:=J7 (Zjp.1 hf).1;obtain⟨a,n,m,h1,h2,h3,h4,h5,h6⟩:=r.ob4 (by omega) ho;have e:=Z0g r (by omega) ho;refine⟨by show 0<=o.ptrs;omega,by show o.ptrs<=_;rw[e];omega,by rw[e];omega,λw hw=>lsW hh (q:=k) (by omega) w ?_⟩;exact Zih (ZhB hw)
theorem ofOk(hh:h.ok)(hr:Yq h=true):OfOk h:=by
 obtain⟨p,r⟩:=jk.1 hr;exact r.ofOk hh
end
theorem Zbh{h:Hp}(hh:h.ok):VC (bes Try.prog) 15 false [hpV h] (ofR h):=Zbg hh (ofOk hh)
end
section
structure VwI (d:List Fo) (s:Vw):Prop where
 ns:s.ns=d.filter λf=> !f.ob.gone
 n1:∀a j,getA s.nm a=some j->∃i:Nat,j=i/\∃f,s.ns[i]?=some f/\f.ad=a
 n2:∀f∈s.ns,(getA s.nm f.ad).isSome=true
 t1:∀a t,getA s.tm a=some t->∃f∈d,f.ob.gone=true/\f.ad=a/\f.ob.target=t
 t2:∀f∈d,f.ob.gone=true->(getA s.tm f.ad).isSome=true
theorem Ul{α:Type}{l:List (Int×α)}{k j:Int}{x:α}(h:k=j\/(getA l j).isSome=true):(getA (putA l k x) j).isSome=true:=by
 rw[Uj];split
 ·rfl
 ·rename_i hn;rcases h with h|h
  ·exact absurd h hn
  ·exact h
theorem VwI.put{d:List Fo}{s:Vw}{f:Fo}(i:VwI d s):VwI (d++[f]) (s.put f):=by
 cases hg:f.ob.gone
 ·have e:s.put f= {s with ns:=s.ns++[f],nm:=putA s.nm f.ad s.ns.length}:=by simp[Vw.put,hg]
  rw[e];refine⟨by simp[i.ns,hg],λa j hj=> ?_,λx hx=> ?_,λa t ht=> ?_,λx hx hxg=> ?_⟩
  ·simp only[Uj]at hj;split at hj
   ·rename_i ha;exact⟨s.ns.length,by simpa using hj.symm,f,by simp,ha⟩
   ·obtain⟨m,e1,g,e2,e3⟩:=i.n1 a j hj;exact⟨m,e1,g,by simp only[Zhn (ZgL.1 e2).1,e2],e3⟩
  ·rcases Zh9.1 hx with hx|hx
   ·exact Ul (.inr (i.n2 x hx))
   ·rw[ZhJ.1 hx];exact Ul (.inl rfl)
  ·obtain⟨g,h1,h2⟩:=i.t1 a t ht;exact⟨g,by simp[h1],h2⟩
  ·rcases Zh9.1 hx with hx|hx
   ·exact i.t2 x hx hxg
   ·rw[ZhJ.1 hx,hg]at hxg;exact absurd hxg (by simp)
 ·have e:s.put f= {s with tm:=putA s.tm f.ad f.ob.target}:=by simp[Vw.put,hg]
  rw[e];refine⟨by simp[i.ns,hg],i.n1,i.n2,λa t ht=> ?_,λx hx hxg=> ?_⟩
  ·simp only[Uj]at ht;split at ht
   ·rename_i ha;exact⟨f,by simp,hg,ha,by simpa using ht⟩
   ·obtain⟨g,h1,h2⟩:=i.t1 a t ht;exact⟨g,by simp[h1],h2⟩
  ·rcases Zh9.1 hx with hx|hx
   ·exact Ul (.inr (i.t2 x hx hxg))
   ·rw[ZhJ.1 hx];exact Ul (.inl rfl)
theorem VwI.fold:∀ {l d:List Fo} {s:Vw},VwI d s->VwI (d++l) (l.foldl Vw.put s)
 | [],d,s,i=>by simpa using i
 |f::l,d,s,i=>by
  have:=VwI.fold (l:=l) (i.put (f:=f));rwa[ZhR]at this
theorem Z4i(h:Hp):VwI (fos h 4 0) (YD h):=by
 have:VwI [] ⟨[],[],[]⟩:=⟨rfl,by simp[getA],by simp,by simp[getA],by simp⟩;exact this.fold (l:=fos h 4 0)
section
variable {h:Hp}{p:Pts}
theorem yS(r:Rt h p){q:Nat}(hq:q<4){o:Ob}(ho:o∈obP h q):(foP h q o).ad=fstL (layH h) ((q:Int)+1)+o.at_:=by
 obtain⟨a,n,m,h1,h2,h3,h4,_⟩:=r.ob4 hq ho;show(ZI (layH h) ((q:Int)+1) o.at_).1=_;rw[Sq r.lay (by omega) (by rw[WV (by omega),Qn h hq];omega)]
theorem Z52(r:Rt h p){f g:Fo}(hf:f∈fos h 4 0)(hg:g∈fos h 4 0)(e:f.ad=g.ad):f=g:=by
 obtain⟨k,o,_,hk,ho,rfl⟩:=J7 hf;obtain⟨j,q,_,hj,hq,rfl⟩:=J7 hg;rw[yS r (by omega) ho,yS r (by omega) hq]at e;have ho':=ho;have hq':=hq;rw[r.obQ (by omega)]at ho' hq';obtain⟨e1,e2⟩:=r.toTld.inj (by omega) (by omega) ho' hq' (by unfold refR;omega);have:k=j:=by omega
 subst this;rw[e2]
theorem Z5R{f:Fo}:f∈(YD h).ns↔f∈fos h 4 0/\f.ob.gone=false:=by
 rw[(Z4i h).ns];simp
theorem Rt.to_nm(r:Rt h p){f:Fo}(hf:f∈fos h 4 0)(hg:f.ob.gone=false):∃i:Nat,getA (YD h).nm f.ad=some (i:Int)/\(YD h).ns[i]?=some f:=by
 obtain⟨j,hj⟩:=ZhN.1 ((Z4i h).n2 f (Z5R.2 ⟨hf,hg⟩));obtain⟨i,rfl,g,h1,h2⟩:=(Z4i h).n1 _ _ hj;have:=Z52 r (Z5R.1 (ZgQ h1)).1 hf h2;subst this;exact⟨i,hj,h1⟩
theorem Rt.to_live(r:Rt h p){f:Fo}(hf:f∈fos h 4 0)(hg:f.ob.gone=false){w:Int}(hw:w≠0)(ha:(adr w).1=f.ad):∃i:Nat,(YD h).toA w=i/\(YD h).ns[i]?=some f:=by
 obtain⟨i,h1,h2⟩:=r.to_nm hf hg;refine⟨i,?_,h2⟩
 have:getA (YD h).tm f.ad=none:=by
  cases ht:getA (YD h).tm f.ad with
  |none=>rfl
  |some t=>
   obtain⟨g,k1,k2,k3,_⟩:=(Z4i h).t1 _ _ ht;rw[Z52 r k1 hf k3,hg]at k2;exact absurd k2 (by simp)
 unfold Vw.toA;rw[if_neg hw,ha,this,Option.getD_none,h1,Zhe]
theorem Rt.to_gone(r:Rt h p){f g:Fo}(hf:f∈fos h 4 0)(hg:f.ob.gone=true)(gf:g∈fos h 4 0)(gg:g.ob.gone=false)(ht:f.ob.target=g.ad){w:Int}(hw:w≠0)(ha:(adr w).1=f.ad):∃i:Nat,(YD h).toA w=i/\(YD h).ns[i]?=some g:=by
 obtain⟨i,h1,h2⟩:=r.to_nm gf gg;refine⟨i,?_,h2⟩;obtain⟨t,e⟩:=ZhN.1 ((Z4i h).t2 f hf hg);obtain⟨x,k1,k2,k3,k4⟩:=(Z4i h).t1 _ _ e;rw[Z52 r k1 hf k3,ht]at k4;unfold Vw.toA;rw[if_neg hw,ha,e,Zhe,<-k4,h1,Zhe]
theorem Rt.live12(r:Rt h p){q:Nat}(hq:q<2){o:Ob}(ho:o∈obP h q):o.gone=false:=by
 rw[r.obQ (by omega)]at ho;obtain⟨w,_,hw⟩:=((r.tiles ((q:Int)+1) (by omega)).stands o ho).1.word;cases hg:o.gone
 ·rfl
 ·rw[hg,if_pos rfl]at hw;have:=hw.1;simp at this;omega
theorem Rt.gos(r:Rt h p){w i j:Int}(hi:1<=i/\i<=4)(hj:1<=j/\j<=4)(hw:Gos h p w i j)(h0:w≠0):∃(q:Nat) (o:Ob),q<4/\(((q:Int)+1=i)\/((q:Int)+1=j))/\o∈obP h q/\w=2*(foP h q o).ad+1/\(adr w).1=(foP h q o).ad:=by
 rcases hw with rfl|⟨k,o,hk,ho,rfl⟩
 ·exact absurd rfl h0
 obtain⟨q,rfl,hq⟩:∃q:Nat,k=(q:Int)+1/\q<4:=⟨(k-1).toNat,by omega,by omega⟩;have ho':o∈obP h q:=by rw[r.obQ hq];exact ho
 refine⟨q,o,hq,hk,ho',?_,?_⟩
 ·rw[yS r hq ho'];rfl
 ·rw[r.toTld.adr (by omega) ho,yS r hq ho']
theorem Rt.to_any(r:Rt h p){w i j:Int}(hi:1<=i/\i<=4)(hj:1<=j/\j<=4)(hw:Gos h p w i j)(h0:w≠0):∃(n:Nat),(YD h).toA w=n/\n< (YD h).ns.length:=by
 obtain⟨q,o,hq,hk,ho,_,ha⟩:=r.gos hi hj hw h0;have hf:foP h q o∈fos h 4 0:=zp ho (by omega) (by omega);cases hg:o.gone
 ·obtain⟨n,h1,h2⟩:=r.to_live hf hg h0 ha;exact⟨n,h1,(ZgL.1 h2).1⟩
 ·have h3:2<=q:=by
   by_cases hl:q<2
   ·rw[r.live12 hl ho]at hg;exact absurd hg (by simp)
   ·omega
  have ho':=ho;rw[r.obQ hq]at ho';obtain⟨t,ht,h4,_⟩:=r.gone ((q:Int)+1) (by omega) o ho' hg;have ht':t∈obP h 0:=by rw[r.obQ (by omega)];exact ht
  obtain⟨n,h1,h2⟩:=r.to_gone hf hg (g:=foP h 0 t) (zp ht' (by omega) (by omega)) (r.live12 (by omega) ht') (by rw[yS r (by omega) ht'];exact h4) h0 ha;exact⟨n,h1,(ZgL.1 h2).1⟩
theorem Rt.to_in(r:Rt h p){w i j:Int}(hi:1<=i/\i<=4)(hj:1<=j/\j<=4)(hw:Gos h p w i j):inR (YD h).ns.length ((YD h).toA w)=true:=by
 by_cases h0:w=0
 ·subst h0;simp[Vw.toA,inR];omega
 ·obtain⟨n,h1,h2⟩:=r.to_any hi hj hw h0;rw[h1];simp[inR];omega
theorem Rt.to_root(r:Rt h p){w:Int}(hw:Gos h p w 1 2)(h0:w≠0):∃(n:Nat) (f:Fo),(YD h).toA w=n/\(YD h).ns[n]?=some f/\w=2*f.ad+1:=by
 obtain⟨q,o,hq,hk,ho,e,ha⟩:=r.gos (by omega) (by omega) hw h0;have hf:foP h q o∈fos h 4 0:=zp ho (by omega) (by omega);obtain⟨n,h1,h2⟩:=r.to_live hf (r.live12 (by omega) ho) h0 ha;exact⟨n,_,h1,h2,e⟩
theorem Rt.to_inj(r:Rt h p){w v:Int}(hw:Gos h p w 1 2)(hv:Gos h p v 1 2)(e:(YD h).toA w=(YD h).toA v):w=v:=by
 have z:(YD h).toA 0= -1:=by simp[Vw.toA]
 by_cases h0:w=0
 ·by_cases k0:v=0
  ·rw[h0,k0]
  ·obtain⟨n,f,h1,h2,h3⟩:=r.to_root hv k0;rw[h0,z,h1]at e;omega
 ·obtain⟨n,f,h1,h2,h3⟩:=r.to_root hw h0;by_cases k0:v=0
  ·rw[k0,z,h1]at e;omega
  ·obtain⟨m,g,k1,k2,k3⟩:=r.to_root hv k0;have:n=m:=by omega
   subst this;rw[h2]at k2;injection k2 with k2;rw[h3,k3,k2]
theorem ZaA{k:Int}{i:Nat}{w:Int}(hw:yb h p k i w):∃a b:Int,(1<=a/\a<=4)/\(1<=b/\b<=4)/\Gos h p w a b:=by
 unfold yb at hw;split at hw
 ·exact⟨3,4,by omega,by omega,hw⟩
 ·split at hw
  ·rcases hw with hw|hw
   ·exact⟨1,2,by omega,by omega,hw⟩
   ·exact⟨3,4,by omega,by omega,hw⟩
  ·exact⟨1,2,by omega,by omega,hw⟩
theorem Rt.view_right(r:Rt h p){roots:List Int}(hl:roots.length<=16)(hr:∀w∈roots,Gos h p w 1 2):Vm.right ((YD h).gr roots)=true:=by
 simp only[Vm.right,ZgM,ZgT,Zh1,Vw.gr,Zhu,ZgX];refine⟨⟨hl,?_⟩,?_⟩
 ·rintro _ ⟨f,hf,rfl⟩;obtain⟨hf1,hg⟩:=Z5R.1 hf;obtain⟨q,o,_,hq,ho,rfl⟩:=J7 hf1;obtain⟨a,n,m,h1,h2,h3,h4,h5,h6⟩:=r.ob4 (by omega) ho;have e:=Z0g r (by omega) ho;simp only[TY,ndF,ZgM,ZgT,Zh1,Zhu,ZhY,ZiE,ZgX];refine⟨by omega,?_⟩;rintro _ ⟨w,hw,rfl⟩;obtain⟨j,hj⟩:=Zh8 hw;have hjl:=(ZgL.1 hj).1;rw[ZhY]at hjl;have hop:(foP h q o).ob.ptrs=o.ptrs:=rfl;rw[hop]at hj hjl;rw[Zjk (by omega)]at hj;have ho':=ho;rw[r.obQ (by omega)]at ho'
  have hw':(Zm h ((q:Int)+1))[o.at_.toNat+1+j]?=some w:=by
   rw[Qn h (by omega)];simp only[foP]at hj;rw[Zjk (by omega),Zht]at hj;rw[<-hj];congr 1;omega
  obtain⟨i,k,hi,hk,hG⟩:=ZaA (r.ptr ((q:Int)+1) (by omega) o ho' hg j (by omega) w hw');exact r.to_in hi hk hG
 ·rintro _ ⟨w,hw,rfl⟩;exact r.to_in (by omega) (by omega) (hr w hw)
theorem S4{s:Vw}{q:Nat}:∀ {l:List Ob},(∀o∈l,(foP h q o).sl.length=o.size.toNat/\0<=o.size/\o.ptrs<=o.size)->((((l.map (foP h q)).filter λf=> !f.ob.gone).map (ndF s)).map ndW).sum=wtL l
 | [],_=>rfl
 |o::l,hl=>by
  have ih:=S4 (s:=s) (l:=l) λx hx=>hl x (by simp[hx]);obtain⟨h1,h2,h3⟩:=hl o (by simp);have hw:wtL (o::l)=wtO o+wtL l:=by simp[wtL]
  rw[hw,Zha,List.filter_cons];have hob:(foP h q o).ob=o:=rfl;cases hg:o.gone
  ·simp only[hob,hg,Bool.not_false,Zhp,Zha,List.sum_cons,ih];congr 1;simp only[ndW,ndF,Zhu,ZhY,ZiE,wtO,hg,hob,h1,ZgU,Zhr];omega
  ·simp only[hob,hg,Zja,ih,wtO,ZgU,Zhp,Zhr,Zhy]
theorem Zb0:∀ {l:List Ob},(∀o∈l,o.gone=false)->(∀o∈l,0<=o.size)->(wtL l:Int)=szL l
 | [],_,_=>rfl
 |o::l,h1,h2=>by
  have ih:=Zb0 (l:=l) (λx hx=>h1 x (by simp[hx])) (λx hx=>h2 x (by simp[hx]));have hw:wtL (o::l)=wtO o+wtL l:=by simp[wtL]
  have hz:szL (o::l)=1+o.size.toNat+szL l:=by simp[szL]
  have:=h2 o (by simp);rw[hw,hz,wtO,h1 o (by simp)];simp;omega
theorem Rt.view_words(r:Rt h p)(roots:List Int):(wsum ((YD h).gr roots).nodes:Int)=h.low.length+h.high.length+Rh p:=by
 have hs:∀q,q<4->∀o∈obP h q,(foP h q o).sl.length=o.size.toNat/\0<=o.size/\o.ptrs<=o.size:=λq hq o ho=>by
  obtain⟨a,n,m,h1,h2,h3,h4,h5,h6⟩:=r.ob4 hq ho;exact⟨Z0g r hq ho,by omega,by omega⟩
 have e:wsum ((YD h).gr roots).nodes=wtL (obP h 0)+(wtL (obP h 1)+(wtL (obP h 2)+wtL (obP h 3))):=by
  unfold wsum Vw.gr;show(((YD h).ns.map (ndF (YD h))).map ndW).sum=_;rw[Z1w h];simp only[fos,List.filter_append,ZhU,ZjS,ZhT,ZhM,Zhy,Nat.reduceAdd];rw[S4 (hs 0 (by omega)),S4 (hs 1 (by omega)),S4 (hs 2 (by omega)),S4 (hs 3 (by omega))]
 have t0:=(r.tiles 1 (by omega)).sum (ZhO _);have t1:=(r.tiles 2 (by omega)).sum (ZhO _);have e0:obP h 0=p.at 1:=r.obQ (by omega);have e1:obP h 1=p.at 2:=r.obQ (by omega);have e2:obP h 2=p.at 3:=r.obQ (by omega);have e3:obP h 3=p.at 4:=r.obQ (by omega);have w0:=Zb0 (λo ho=>r.live12 (q:=0) (by omega) ho) (λo ho=>(hs 0 (by omega) o ho).2.1);have w1:=Zb0 (λo ho=>r.live12 (q:=1) (by omega) ho) (λo ho=>(hs 1 (by omega) o ho).2.1);rw[e0]at w0;rw[e1]at w1;rw[e,e0,e1,e2,e3];have p1:Zm h 1=h.low:=rfl;have p2:Zm h 2=h.high:=rfl;rw[p1]at t0;rw[p2]at t1;have:Rh p=wtL (p.at 3)+wtL (p.at 4):=rfl;omega
end
end
end Vm
end
section
namespace Vm
open Go
open Go.Proofs
def p4:Fn:=⟨16,[0,1,2,3,4,5,6,7,55,8,60,86,9,89,114,10],
pQ [pR [(1,pS 0 7),pV 2 pF],pC [pK 16 13 []] [pV 3 (.s 16)],pC [pK 17 16 [.mm 1 0 7]] [(4,pS 17 10)],pC [pK 18 20 [.mm 4 0 10]] [pV 5 (.s 18)],pC [pK 19 15 [.mm 4 0 10]] [(6,pM (.sz (.ext (.s 19) 0) 2) 2),pV 7 (.ext (.s 19) 1)],pQ [.reg ⟨[.lt 20 [] (.bin .neq (.s 7) (pI 0)),.call 21 [(20,false)] (.id 21) false false [.mm 6 0 2],.lt 22 [] (.ite (.s 20) pT (.bin .neq (.s 5) (.s 21))),.lt 23 [] (.ite (.s 22) pT (.bin .lss (.s 5) (pI 0))),.call 24 [(23,false)] (.id 22) false false [.mm 4 0 10],.lt 25 [] (.ite (.s 23) pT (.bin .gtr (.s 5) (.bin .add (.bin .add (.len (.m 4 5)) (.len (.m 4 6))) (.s 24))))],[([(20,false)],.bin .neq (.s 5) (.s 21)),([(22,false)],.bin .lss (.s 5) (pI 0)),([(23,false)],.bin .gtr (.s 5) (.bin .add (.bin .add (.len (.m 4 5)) (.len (.m 4 6))) (.s 24))),([(25,false)],.bin .neq (.len (.m 6 1)) (.len (.m 4 9)))],[pV 8 (.ite (.s 25) pT (.bin .neq (.len (.m 6 1)) (.len (.m 4 9))))]⟩] (.cond (.s 8) (pQ [pR [pV 2 pF]] .ret) .skip),pQ [pR [pV 9 (pI 0)]] (.block 0 (.loop [0,1,2,3,4,5,6,7,8,9] (pQ [pQ [pR [pV 10 (.bin .lss (.s 9) (.len (.m 4 9)))]] (.cond (.s 10) .skip (.exit 0)),.block 1 (pQ [pQ [.reg ⟨[.lt 26 [] (.eqv true (.bin .eql (.fld (.idx (.m 4 9) (.s 9) 1) 0) (pU 0)) (.bin .eql (.fld (.idx (.m 6 1) (.s 9) 1) 0) (pI (-1))))],[([(26,false)],.bin .geq (.fld (.idx (.m 6 1) (.s 9) 1) 0) (.len (.m 6 0)))],[pV 11 (.ite (.s 26) pT (.bin .geq (.fld (.idx (.m 6 1) (.s 9) 1) 0) (.len (.m 6 0))))]⟩] (.cond (.s 11) (pQ [pR [pV 2 pF]] .ret) .skip),pR [pV 12 (pI 0)]] (.block 2 (.loop [0,1,2,3,4,5,6,7,8,9,10,11,12] (pQ [pQ [pR [pV 13 (.bin .lss (.s 12) (.s 9))]] (.cond (.s 13) .skip (.exit 2)),.block 3 (pQ [pR [pV 14 (.eqv true (.bin .eql (.fld (.idx (.m 4 9) (.s 9) 1) 0) (.fld (.idx (.m 4 9) (.s 12) 1) 0)) (.bin .eql (.fld (.idx (.m 6 1) (.s 9) 1) 0) (.fld (.idx (.m 6 1) (.s 12) 1) 0)))]] (.cond (.s 14) (pQ [pR [pV 2 pF]] .ret) .skip))] (pR [pV 12 (.bin .add (.s 12) (pI 1))])))))] (pR [pV 9 (.bin .add (.s 9) (pI 1))])))),pR [(15,pM (.mm 4 0 10) 10)],pR [(15,.m [.m 15 0,.m 15 1,.m 15 2,.m 15 3,.m 15 4,.m 15 5,.m 15 6,.m 15 7,.m 15 8,.mk (.int .u64 0) (.len (.m 4 9))])],.reg ⟨[.lt 27 [] (.s 3),.call 28 [(27,true)] (.id 20) false true [.mm 15 0 10]],[([(27,true)],.bin .eql (.s 28) (pI 0))],[pV 2 (.ite (.s 27) (.bin .eql (.s 28) (pI 0)) pF)]⟩] .ret,[(2,.v)]⟩
def c4:Zj (bes Try.prog) fresh sig [.fz] [] Try.f4=some p4:=by kernel_rfl
def p13:Fn:=⟨9,[0,1,2,3,4,5,6,7,8],
pQ [pR [pV 0 pF],.reg ⟨[],[([],.ag [pU 10,pI 5,pI 0,pF,pI 2,.lit [pU 2,pU 6],pN,pN,pN,.lit [pU 21,pU 0]])],[(1,.m [pU 10,pI 5,pI 0,pF,pI 2,.lit [pU 2,pU 6],pN,pN,pN,.lit [pU 21,pU 0]])]⟩,pC [pK 9 15 [.mm 1 0 10]] [(2,pM (.sz (.ext (.s 9) 0) 2) 2),pV 3 (.fl (.ext (.s 9) 1))],pC [pK 10 15 [pY]] [(4,pM (.sz (.ext (.s 10) 0) 2) 2),pV 5 (.ext (.s 10) 1)],.reg ⟨[],[([],.ag [pU 10,pI 5,pI 1,pT,pI 0,.lit [pU 2,pU 6],pN,.lit [pU 31,pU 0],pN,.lit [pU 31,pU 0]])],[(6,.m [pU 10,pI 5,pI 1,pT,pI 0,.lit [pU 2,pU 6],pN,.lit [pU 31,pU 0],pN,.lit [pU 31,pU 0]])]⟩,pC [pK 11 15 [.mm 6 0 10]] [(7,pM (.sz (.ext (.s 11) 0) 2) 2),pV 8 (.fl (.ext (.s 11) 1))],.reg ⟨[.lt 12 [] (.bin .eql (.s 3) (pI 0)),.call 13 [(12,true)] (.id 18) false false [.mm 2 0 2,.ag [.lit [.ag [pN,.lit [pU 6]]],.lit [pI 0,pI (-1)]]],.lt 14 [] (.ite (.s 12) (.s 13) pF),.lt 15 [] (.ite (.s 14) (.bin .eql (.s 5) (pI 1)) pF),.lt 16 [] (.ite (.s 15) (.bin .eql (.s 8) (pI 0)) pF),.call 17 [(16,true)] (.id 18) false false [.mm 7 0 2,.mm 2 0 2],.lt 18 [] (.ite (.s 16) (.s 17) pF),.call 19 [(18,true)] (.id 20) false false [.mm 1 0 10],.lt 20 [] (.ite (.s 18) (.bin .eql (.s 19) (pI 2)) pF),.call 21 [(20,true)] (.id 20) false false [pY]],[([(14,true)],.bin .eql (.s 5) (pI 1)),([(15,true)],.bin .eql (.s 8) (pI 0)),([(18,true)],.bin .eql (.s 19) (pI 2)),([(20,true)],.bin .eql (.s 21) (pI 0))],[pV 0 (.ite (.s 20) (.bin .eql (.s 21) (pI 0)) pF)]⟩] .ret,[(0,.v)]⟩
def c13:Zj (bes Try.prog) fresh sig [] [] Try.f13=some p13:=by kernel_rfl
def p20:Fn:=⟨6,[0,1,2,3,4,11],
pQ [pR [(1,pS 0 10),pV 2 (pI 0)],pC [pK 6 15 [.mm 1 0 10]] [(3,pM (.sz (.ext (.s 6) 0) 2) 2),pV 4 (.ext (.s 6) 1)],pQ [pR [pV 5 (.bin .neq (.s 4) (pI 0))]] (.cond (.s 5) (pQ [pR [pV 2 (pI 0)]] .ret) .skip),pC [pK 7 21 [.mm 3 0 2]] [pV 2 (.s 7)]] .ret,[(2,.v)]⟩
def c20:Zj (bes Try.prog) fresh sig [.fz] [] Try.f20=some p20:=by kernel_rfl
end Vm
end
section
namespace Vm
open Go Go.Proofs
theorem Z4X{P:Program}{f:FuncId}{fn:Func}{c:Code}(h1:P.funcs[f]?=some fn)(h2:fn.body=some c)(h3:Ki P c=true):FitF (bes P) f:=⟨λg d hg hd=>by
 have e:(bes P).funcs[f]?=P.funcs[f]? :=rfl;rw[e,h1]at hg;cases hg;rw[h2]at hd;cases hd;exact Z1H h3⟩
def Zfe(l:List Int):NoM (.sl (l.map vi)):=.sl _ λc hc=>by
 have:flat (l.map vi)=l.map vi:=YG λx hx=>by obtain⟨y,_,rfl⟩:=ZgX.1 hx;rfl
 rw[this]at hc;obtain⟨y,_,rfl⟩:=ZgX.1 hc;exact .int _ _
def Z2e(g:Gr):NoM (grV g):=(Z99 g).m
def nom1{x:V}(h:NoM x):∀y∈[x],NoM y:=λy hy=>by rw[ZhJ.1 hy];exact h
def nom2{x z:V}(h:NoM x)(k:NoM z):∀y∈[x,z],NoM y:=λy hy=>by
 simp only[Zh0,Zia,Zjx]at hy;rcases hy with rfl|rfl
 ·exact h
 ·exact k
def up{f:FuncId}{args:List V}{r:V}(hv:VC Sol.prog f false args r)(ha:∀x∈args,NoM x)(hr:NoM r):VC (bes Try.prog) f false args r:=Z5B Sol.sub hv ha hr
def yd{g:Gr}(hg:g.sm):VC (bes Try.prog) 21 false [grV g] (vi (words g)):=up (Z7h hg) (nom1 (Z2e g)) (.int _ _)
def Z7f{a b:Gr}(ha:a.sm):VC (bes Try.prog) 18 false [grV a,grV b] (.bool (decide (a=b))):=up (Z9y ha) (nom2 (Z2e a) (Z2e b)) (.bool _)
def vg(h:Hp):Gr:=(YD h).gr h.roots
def ofG(h:Hp):Gr×Int:=if Yq h=true/\right (vg h)=true then(Xd (vg h),0)else(noGr,1)
def ZcY(h:Hp):ofR h=.tup [grV (ofG h).1,vi (ofG h).2]:=by
 unfold ofR ofG XD vg;by_cases h1:Yq h=true
 ·rw[if_pos h1];by_cases h2:right ((YD h).gr h.roots)=true
  ·rw[if_pos h2,if_pos ⟨h1,h2⟩]
  ·rw[if_neg h2,if_neg λx=>h2 x.2]
 ·rw[if_neg h1,if_neg λx=>h1 x.1]
def Z9b{h:Hp}(hh:h.ok):(ofG h).1.sm:=by
 unfold ofG;split
 ·rename_i k;exact Z7q (ofOk hh k.1).sm.gr k.2
 ·exact⟨by simp[noGr],by simp[noGr],by simp[noGr]⟩
def ya{h:Hp}(hh:h.ok):VC (bes Try.prog) 15 false [hpV h] (.tup [grV (ofG h).1,vi (ofG h).2]):=by
 rw[<-ZcY];exact Zbh hh
def liveR(h:Hp):Nat:=if(ofG h).2=0 then words (ofG h).1 else 0
instance fitLive:FitF (bes Try.prog) 20:=Z4X (P:=Try.prog) Try.func20 rfl (by kernel_rfl)
def LA{h:Hp}(hh:h.ok):VC (bes Try.prog) 20 false [hpV h] (vi (liveR h)):=by
 refine Z9 (P:=bes Try.prog) Try.func20 Qa (by kernel_rfl) c20 rfl ?_;have k:=ya hh;have ks:=Z9b hh;unfold liveR;generalize ofG h=g at*;obtain⟨g,e⟩:=g;simp only at k ks⊢;simp[p20];refine Z1 k (by simp) ?_;by_cases he:e=0
 ·simp[he];refine Z1 (yd ks) (by simp) ?_;simp
 ·simp[he]
def ey1:Hp:=⟨10,5,0,false,2,[2,6],[],[],[],[21,0]⟩
def ey2:Hp:=⟨10,5,1,true,0,[2,6],[],[31,0],[],[31,0]⟩
def eyG:Gr:=⟨[⟨[],[6]⟩],[0,-1]⟩
def Z90:ey1.ok:=by refine⟨?_,?_,?_,?_,?_,?_,?_,?_,?_,?_,?_,?_,?_,?_⟩<;>simp[ey1,U64,Fit]
def ZbC:ey2.ok:=by refine⟨?_,?_,?_,?_,?_,?_,?_,?_,?_,?_,?_,?_,?_,?_⟩<;>simp[ey2,U64,Fit]
instance fitAwake:FitF (bes Try.prog) 13:=Z4X (P:=Try.prog) Try.func13 rfl (by kernel_rfl)
def Z2X:VC (bes Try.prog) 13 false [] (.bool true):=by
 refine Z9 (P:=bes Try.prog) Try.func13 Qa (by kernel_rfl) c13 rfl ?_;have hfl:flV (vi 0)=some (vi 0):=by rfl
 have r1:ofG ey1=(eyG,0):=by decide+kernel
 have r2:ofG Hp.zero=(noGr,1):=by decide+kernel
 have r3:ofG ey2=(eyG,0):=by decide+kernel
 have l1:liveR ey1=2:=by decide+kernel
 have l2:liveR Hp.zero=0:=by decide+kernel
 have a1:=ya Z90;have a2:=ya Hp.zero_ok;have a3:=ya ZbC;have b1:=LA Z90;have b2:=LA Hp.zero_ok;have s1:=Z7f (a:=eyG) (b:=eyG) (by simp[eyG,Gr.sm]);rw[r1]at a1;rw[r2]at a2;rw[r3]at a3;rw[l1]at b1;rw[l2]at b2;simp[ey1,ey2,eyG,Hp.zero,hpV,grV,ndV,noGr]at a1 a2 a3 b1 b2 s1;simp[p13];refine Z1 a1 (by simp) ?_;simp[hfl];refine Z1 a2 (by simp) ?_;simp[hfl];refine Z1 a3 (by simp) ?_;simp[hfl];refine Z1 s1 (by simp) ?_;simp[hfl];refine Z1 s1 (by simp) ?_;simp[hfl];refine Z1 b1 (by simp) ?_;simp[hfl];refine Z1 b2 (by simp) ?_;simp[hfl]
end Vm
end
section

end
section
namespace Vm
open Go Go.Proofs
def wAt(g:Gr)(x:Int):Nat:=ndW ((g.nodes[x.toNat]?).getD default)
def Z1t:∀(n:Nat) (f:Int->Nat) {l:List Int},Good n l->(l.map f).sum<=((List.range n).map λi:Nat=>f i).sum
 |0,f,l,h=>by
  have:=h.len;have:l=[]:=Zhz (by omega);subst this;simp
 |n+1,f,l,h=>by
  rw[ZiA,ZhU,ZjS];by_cases hm:(n:Int)∈l
  ·have h1:Good n (l.erase (n:Int)):=⟨h.1.erase _,λx hx=>by
    have hx':=(h.1.mem_erase_iff).1 hx;have:=h.2 x hx'.2;omega⟩
   have h2:=Z1t n f h1
   have h3:(l.map f).sum=f n+((l.erase (n:Int)).map f).sum:=by
    have h4:=(List.perm_cons_erase hm).map f;have h5:=h4.sum_nat;simpa using h5
   rw[h3];simp;omega
  ·have h1:Good n l:=⟨h.1,λx hx=>by
    have h2:=h.2 x hx;have:x≠n:=λe=>hm (e▸hx);omega⟩
   have:=Z1t n f h1;simp;omega
def Z4n(l:List Nd):wsum l=((List.range l.length).map λi:Nat=>ndW ((l[i]?).getD default)).sum:=by
 unfold wsum;congr 1;apply Zkc;intro i;rw[Zh2,Zh2];by_cases h:i<l.length
 ·simp[h]
 ·rw[Zi1 (by omega),Zi1 (by simp;omega)];rfl
def Z06{g:Gr}(hr:right g=true):words (Xd g)<=words g:=by
 unfold words;rw[if_pos hr];split
 ·have h:=Z1t g.nodes.length (wAt g) (XM hr)
  have h2:wsum (Xd g).nodes=((order g).map (wAt g)).sum:=by
   unfold wsum Xd;simp only[Zj5];congr 1;refine ZjR λx _=> ?_;simp only[Function.comp,UY,ndW,wAt,Xf,Zhu]
  rw[h2,Z4n];exact h
 ·omega
def QU(g:Gr):(Xd g).nodes.length=(order g).length:=by simp[Xd]
def qJ:∀ {l acc:List Int},(∀x∈l,x<0)->YB acc l=acc
 | [],acc,_=>rfl
 |x::l,acc,h=>by
  have h1:=h x (by simp);simp only[YB];rw[if_neg (by omega)];exact qJ λy hy=>h y (by simp[hy])
def Z0V{g:Gr}(h:∀x∈g.roots,x<0):order g=[]:=by
 unfold order;rw[qJ h];simp[VV]
section
theorem R0{h:Hp}{k j:Int}(hk:1<=k/\k<=4)(hj:1<=j/\j<=4)(l:List Int):Zm (WZ h k l) j=if j=k then l else Zm h j:=by
 have h1:k=1\/k=2\/k=3\/k=4:=by omega
 have h2:j=1\/j=2\/j=3\/j=4:=by omega
 rcases h1 with rfl|rfl|rfl|rfl<;>rcases h2 with rfl|rfl|rfl|rfl<;>rfl
def ndAt(b:Bt)(i:Nat):Nd:=(b.g.nodes[i]?).getD default
def Za(b:Bt)(i:Nat):Pl:=(b.here[i]?).getD ⟨0,0⟩
def ZD(b:Bt)(i:Nat):Pl:=(b.old[i]?).getD ⟨0,0⟩
def hdrN(n:Nd):Int:=(Q1 ((n.ptrs.length:Int)+n.data.length) n.ptrs.length).1
def XF(b:Bt)(p:Pl)(n:Nd)(tw:Int):List Int:=hdrN n::(Yi b p p.at_.toNat n.ptrs tw++n.data)
def TN(b:Bt)(p:Pl)(n:Nd):List Int:=refB b.h p::List.replicate (sizN n-1) 0
def blkB(b:Bt)(x:Rw)(k:Int)(i:Nat):List Int:=
 if(Za b i).part=k then XF b (Za b i) (ndAt b i) (IntKind.i64.wrap (x.slack+i))
 else if(ZD b i).part=k then(if(Za b i).part=0 then XF b (ZD b i) (ndAt b i) 0 else TN b (Za b i) (ndAt b i))
 else []
def cat(b:Bt)(x:Rw)(k:Int)(i:Nat):List Int:=(List.range i).flatMap (blkB b x k)
theorem YF(b:Bt)(x:Rw)(k:Int)(i:Nat):cat b x k (i+1)=cat b x k i++blkB b x k i:=by
 unfold cat;rw[ZiA,Zix];simp
theorem Y7(b:Bt)(p:Pl)(n:Nd)(tw:Int):(XF b p n tw).length=sizN n:=by
 simp[XF,Yi,sizN];omega
theorem XY(b:Bt)(p:Pl)(n:Nd):(TN b p n).length=sizN n:=by
 simp[TN,sizN];omega
structure Placed (b:Bt) (x:Rw):Prop where
 ok:BOk b
 here:∀i,i<b.g.nodes.length->(Za b i=⟨0,0⟩/\∃k:Int,(k=3\/k=4)/\(ZD b i).part=k)\/(((Za b i).part=1\/(Za b i).part=2)/\(Za b i).at_=((cat b x (Za b i).part i).length:Nat))
 old:∀i,i<b.g.nodes.length->ZD b i=⟨0,0⟩\/(((ZD b i).part=3\/(ZD b i).part=4)/\(ZD b i).at_=((cat b x (ZD b i).part i).length:Nat)/\(Za b i).part≠2)
 zero:∀k:Int,1<=k/\k<=4->Zm b.h k=List.replicate (cat b x k b.g.nodes.length).length 0
section
variable {b d:Bt}{x:Rw}
theorem JL(hl:Like b d)(p:Pl):refB d.h p=refB b.h p:=by
 unfold refB;rw[hl.lay]
theorem Z45(hl:Like b d)(p:Pl)(to tw:Int):UG d p to tw=UG b p to tw:=by
 unfold UG;rw[hl.here,hl.old,hl.scan,JL hl,JL hl]
theorem Le(hl:Like b d)(p:Pl)(n:Nd)(tw:Int):XF d p n tw=XF b p n tw:=by
 unfold XF Yi;simp only[Z45 hl]
theorem Z0E{p:Pl}{a m:Nat}{n:Nd}{tw:Int}{F:List Int}(hp:Zm d.h p.part=F++List.replicate m 0)(ha:F.length=a)(hat:p.at_.toNat=a)(hm:sizN n<=m):layL d p a n tw=F++XF d p n tw++List.replicate (m-sizN n) 0:=by
 unfold layL;simp only;rw[hp];have e1:(F++List.replicate m (0:Int)).take a=F:=by rw[<-ha];simp
 have e2:(F++List.replicate m (0:Int)).drop (a+sizN n)=List.replicate (m-sizN n) 0:=by
  rw[<-ha,Zkj,Zil (by omega)];simp
 rw[e1,e2];simp[XF,hdrN,hat]
theorem ZaM{F:List Int}{a m s:Nat}{w:Int}(ha:F.length=a)(hs:1<=s)(hm:s<=m):(F++List.replicate m (0:Int)).set a w=F++(w::List.replicate (s-1) 0)++List.replicate (m-s) 0:=by
 rw[<-ha,ZkD _ _ (ZgP _),Ziu];obtain⟨m,rfl⟩:∃m',m=m'+1:=⟨m-1,by omega⟩;rw[List.replicate_succ,List.set_cons_zero,ZhR];congr 1;simp;omega
theorem TC(b:Bt)(x:Rw)(k:Int){i j:Nat}(h:i<=j):∃r,cat b x k j=cat b x k i++r:=by
 induction j with
 |zero=>exact⟨[],by have:i=0:=by omega
                    subst this;simp⟩
 |succ j ih=>
  by_cases hij:i=j+1
  ·subst hij;exact⟨[],by simp⟩
  ·obtain⟨r,hr⟩:=ih (by omega);exact⟨r++blkB b x k j,by rw[YF,hr,ZhR]⟩
def Upto(b:Bt)(x:Rw)(i:Nat)(d:Bt):Prop:=∀k:Int,1<=k/\k<=4->Zm d.h k=cat b x k i++List.replicate ((cat b x k b.g.nodes.length).length- (cat b x k i).length) 0
theorem Z6w(b:Bt)(x:Rw)(k:Int){i:Nat}(hi:i<b.g.nodes.length):(cat b x k i).length+(blkB b x k i).length<=(cat b x k b.g.nodes.length).length:=by
 obtain⟨r,hr⟩:=TC b x k (show i+1<=b.g.nodes.length by omega);rw[hr,YF];simp
theorem Z4V(hpl:Placed b x){i:Nat}(hi:i<b.g.nodes.length)(hl:Like b d)(hu:Upto b x i d):Upto b x (i+1) (Z3o x d i):=by
 have en:(d.g.nodes[i]?).getD default=ndAt b i:=by rw[hl.g];rfl
 have ep:(d.here[i]?).getD ⟨0,0⟩=Za b i:=by rw[hl.here];rfl
 have eo:(d.old[i]?).getD ⟨0,0⟩=ZD b i:=by rw[hl.old];rfl
 unfold Z3o;simp only[en,ep,eo];have hh:=hpl.here i hi;have ho:=hpl.old i hi;have hblk:=λk=>Z6w b x k hi;have hbk:∀k,blkB b x k i=if(Za b i).part=k then XF b (Za b i) (ndAt b i) (IntKind.i64.wrap (x.slack+i))else if(ZD b i).part=k then(if(Za b i).part=0 then XF b (ZD b i) (ndAt b i) 0 else TN b (Za b i) (ndAt b i))else []:=λk=>rfl
 have l1:=Y7 b (Za b i) (ndAt b i) (IntKind.i64.wrap (x.slack+i));have l2:=Y7 b (ZD b i) (ndAt b i) 0;have l3:=XY b (Za b i) (ndAt b i);have e1:=Le hl (Za b i) (ndAt b i) (IntKind.i64.wrap (x.slack+i));have e2:=Le hl (ZD b i) (ndAt b i) 0;generalize Za b i=p at*;generalize ZD b i=o at*;generalize ndAt b i=n at*;have hs1:1<=sizN n:=by unfold sizN;omega
 rcases hh with ⟨rfl,ko,hko,hko2⟩|⟨hp,hat⟩
 ·
  have ho2:(o.part=3\/o.part=4)/\o.at_=((cat b x o.part i).length:Nat):=by
   rcases ho with rfl|⟨h1,h2,_⟩
   ·simp at hko2;omega
   ·exact⟨h1,h2⟩
  have hA:RV x d i n ⟨0,0⟩=d:=by unfold RV;rw[if_neg (by simp)]
  have hO:RW d n ⟨0,0⟩ o=layB d o n 0:=by unfold RW;rw[if_pos ⟨by omega,rfl⟩]
  have hG:∀q,SB q ⟨0,0⟩ o=q:=λq=>by unfold SB;rw[if_neg (by simp)]
  rw[hA,hO,hG];intro k hk;have hbO:blkB b x o.part i=XF b o n 0:=by rw[hbk,if_neg (by show ¬(0:Int)=o.part;omega),if_pos rfl,if_pos rfl]
  have hro:=hblk o.part;rw[hbO,l2]at hro;unfold layB;simp only;rw[R0 (by omega) hk];by_cases hko:k=o.part
  ·rw[if_pos hko,hko,Z0E (hu o.part (by omega)) (by rw[ho2.2];simp) rfl (by omega),YF,hbO,e2];congr 2;simp[l2];omega
  ·rw[if_neg hko,YF,hbk k,if_neg (by show ¬(0:Int)=k;omega),if_neg (λh=>hko h.symm),ZhT];exact hu k hk
 ·have hp0:¬p.part=0:=by omega
  have hA:RV x d i n p=layB d p n (IntKind.i64.wrap (x.slack+i)):=by unfold RV;rw[if_pos (by omega)]
  have hO:∀q,RW q n p o=q:=λq=>by unfold RW;rw[if_neg (by simp[hp0])]
  rw[hA,hO];have hbP:blkB b x p.part i=XF b p n (IntKind.i64.wrap (x.slack+i)):=by rw[hbk,if_pos rfl]
  have hrp:=hblk p.part;rw[hbP,l1]at hrp
  have hlay:∀k:Int,1<=k/\k<=4->Zm (layB d p n (IntKind.i64.wrap (x.slack+i))).h k=if k=p.part then cat b x p.part (i+1)++List.replicate ((cat b x p.part b.g.nodes.length).length- (cat b x p.part (i+1)).length) 0 else Zm d.h k:=by
   intro k hk;unfold layB;simp only;rw[R0 (by omega) hk];by_cases hkp:k=p.part
   ·rw[if_pos hkp,if_pos hkp,Z0E (hu p.part (by omega)) (by rw[hat];simp) rfl (by omega),YF,hbP,e1];congr 2;simp[l1];omega
   ·rw[if_neg hkp,if_neg hkp]
  have hlk:refB (layB d p n (IntKind.i64.wrap (x.slack+i))).h p=refB b.h p:=by
   unfold refB
   have:layH (layB d p n (IntKind.i64.wrap (x.slack+i))).h=layH b.h:=by
    rw[<-hl.lay];unfold layB;simp only;refine jK ?_;rw[Z0E (hu p.part (by omega)) (by rw[hat];simp) rfl (by omega),hu p.part (by omega),e1];simp[l1];omega
   rw[this]
  generalize layB d p n (IntKind.i64.wrap (x.slack+i))=q at*;rcases ho with rfl|⟨ho1,ho2,ho3⟩
  ·have hG:SB q p ⟨0,0⟩=q:=by unfold SB;rw[if_neg (by simp)]
   rw[hG];intro k hk;rw[hlay k hk];by_cases hkp:k=p.part
   ·rw[if_pos hkp,hkp]
   ·rw[if_neg hkp,YF,hbk k,if_neg (λh=>hkp h.symm),if_neg (by show ¬(0:Int)=k;omega),ZhT];exact hu k hk
  ·have hG:SB q p o= {q with h:=WZ q.h o.part ((Zm q.h o.part).set o.at_.toNat (refB q.h p))}:=by unfold SB;rw[if_pos ⟨by omega,by omega⟩]
   rw[hG];have hbO:blkB b x o.part i=TN b p n:=by rw[hbk,if_neg (by omega),if_pos rfl,if_neg hp0]
   have hro:=hblk o.part;rw[hbO,l3]at hro;intro k hk;simp only;rw[R0 (by omega) hk,hlay o.part (by omega),if_neg (show ¬o.part=p.part by omega),hu o.part (by omega),hlk];by_cases hko:k=o.part
   ·rw[if_pos hko,hko,ZaM (by rw[ho2];simp) hs1 (by omega),YF,hbO];unfold TN;congr 2;simp;omega
   ·rw[if_neg hko,hlay k hk];by_cases hkp:k=p.part
    ·rw[if_pos hkp,hkp]
    ·rw[if_neg hkp,YF,hbk k,if_neg (λh=>hkp h.symm),if_neg (λh=>hko h.symm),ZhT];exact hu k hk
theorem yM(hpl:Placed b x):∀i,i<=b.g.nodes.length->Upto b x i (SD x b i)
 |0,_=>by
  intro k hk;rw[SD,hpl.zero k hk];simp[cat]
 |i+1,hi=>by
  rw[SD];exact Z4V hpl (by omega) (qr hpl.ok i (by omega)) (yM hpl i (by omega))
theorem KX(hpl:Placed b x){k:Int}(hk:1<=k/\k<=4):Zm (Y8 x b) k=cat b x k b.g.nodes.length:=by
 have h:=yM hpl b.g.nodes.length (ZgP _) k hk;rw[Ziu,List.replicate_zero,ZhT]at h;rw[<-h];rfl
end
end
section
def Z0m(x:Rw)(c:Bool)(g:Gr)(i:Nat):Pl:=if clsK x i c=0 then⟨2,(stN x c g i).n2⟩else if clsK x i c=1 then⟨1,(stN x c g i).n1⟩else⟨0,0⟩
def oldF(x:Rw)(c:Bool)(g:Gr)(i:Nat):Pl:=if(decide (0<clsK x i c)&&c)=true then(if clsF x i then⟨4,(stN x c g i).n4⟩else⟨3,(stN x c g i).n3⟩)else⟨0,0⟩
theorem ZaR{x:Rw}{c:Bool}{g:Gr}(hg:∀n∈g.nodes,sizN n<=9):∀j,j<=g.nodes.length->∀i,i<j->(stN x c g j).here[i]?=some (Z0m x c g i)/\(stN x c g j).old[i]?=some (oldF x c g i)
 |0,_,i,hi=>by omega
 |j+1,hj,i,hi=>by
  obtain⟨_,_,l1,l2⟩:=Ub (x:=x) (cycle:=c) hg j (by omega);rw[stN];simp only[ZU];by_cases hij:i<j
  ·have:=ZaR (x:=x) (c:=c) hg j (by omega) i hij;rw[Zhn (by omega),Zhn (by omega)];exact this
  ·have:i=j:=by omega
   subst this;rw[Zh6 (by omega),Zh6 (by omega),l1,l2,Ziu];exact⟨rfl,rfl⟩
def nk(s:St8)(k:Int):Nat:=if k=1 then s.n1 else if k=2 then s.n2 else if k=3 then s.n3 else s.n4
section
variable {x:Rw}{c:Bool}
theorem sz9(x:Rw):∀n∈(mkG x.nodes x.roots).nodes,sizN n<=9:=λn hn=>by
 obtain⟨_,_,hb3⟩:=SW x.nodes x.roots;have:=hb3 n hn;unfold sizN;omega
theorem Ws(x:Rw)(c:Bool):(ZB x c).g=mkG x.nodes x.roots:=rfl
theorem Jb{i:Nat}(hi:i< (mkG x.nodes x.roots).nodes.length):Za (ZB x c) i=Z0m x c (mkG x.nodes x.roots) i:=by
 unfold Za;show((stN x c (mkG x.nodes x.roots) (mkG x.nodes x.roots).nodes.length).here[i]?).getD _=_;rw[(ZaR (sz9 x) _ (ZgP _) i hi).1];rfl
theorem Z2i{i:Nat}(hi:i< (mkG x.nodes x.roots).nodes.length):ZD (ZB x c) i=oldF x c (mkG x.nodes x.roots) i:=by
 unfold ZD;show((stN x c (mkG x.nodes x.roots) (mkG x.nodes x.roots).nodes.length).old[i]?).getD _=_;rw[(ZaR (sz9 x) _ (ZgP _) i hi).2];rfl
theorem LU:∀i,i<=(mkG x.nodes x.roots).nodes.length->∀k:Int,1<=k/\k<=4->(cat (ZB x c) x k i).length=nk (stN x c (mkG x.nodes x.roots) i) k
 |0,_,k,hk=>by simp[cat,stN,nk]
 |i+1,hi,k,hk=>by
  have ih:=LU i (by omega) k hk;rw[YF,ZhZ,ih];have hn:ndAt (ZB x c) i=((mkG x.nodes x.roots).nodes[i]?).getD default:=rfl;unfold blkB;rw[Jb (show i< (mkG x.nodes x.roots).nodes.length by omega),Z2i (show i< (mkG x.nodes x.roots).nodes.length by omega),hn,stN];generalize ((mkG x.nodes x.roots).nodes[i]?).getD default=n;have hk4:k=1\/k=2\/k=3\/k=4:=by omega
  unfold Z0m oldF;generalize stN x c (mkG x.nodes x.roots) i=s;rcases YW x i c with h0|h1|⟨h2,rfl⟩
  ·rcases hk4 with rfl|rfl|rfl|rfl<;>simp[nk,ZU,h0,Y7]
  ·cases c<;>cases hf:clsF x i<;>rcases hk4 with rfl|rfl|rfl|rfl<;>simp[nk,ZU,h1,hf,Y7,XY]
  ·cases hf:clsF x i<;>rcases hk4 with rfl|rfl|rfl|rfl<;>simp[nk,ZU,h2,hf,Y7,XY]
theorem RR(hx:x.ok):Placed (ZB x c) x:=by
 refine⟨(Sk hx c).1,λi hi=> ?_,λi hi=> ?_,λk hk=> ?_⟩
 ·rw[Ws]at hi;rw[Jb hi,Z2i hi];have hl:=λk hk=>LU (x:=x) (c:=c) i (by omega) k hk;unfold Z0m oldF;rcases YW x i c with h0|h1|⟨h2,rfl⟩
  ·right;simp[h0,hl 2,nk]
  ·right;simp[h1,hl 1,nk]
  ·left;refine⟨by simp[h2],?_⟩;cases hf:clsF x i
   ·exact⟨3,.inl rfl,by simp[h2]⟩
   ·exact⟨4,.inr rfl,by simp[h2]⟩
 ·rw[Ws]at hi;rw[Jb hi,Z2i hi];have hl:=λk hk=>LU (x:=x) (c:=c) i (by omega) k hk;unfold Z0m oldF;rcases YW x i c with h0|h1|⟨h2,rfl⟩
  ·left;simp[h0]
  ·cases c
   ·left;simp
   ·right;cases hf:clsF x i
    ·simp[h1,hl 3,nk]
    ·simp[h1,hl 4,nk]
  ·right;cases hf:clsF x i
   ·simp[h2,hl 3,nk]
   ·simp[h2,hl 4,nk]
 ·rw[Ws,LU _ (ZgP _) k hk];have hk4:k=1\/k=2\/k=3\/k=4:=by omega
  rcases hk4 with rfl|rfl|rfl|rfl<;>rfl
end
end
section
theorem ju(h:Hp){k:Int}(hk:1<=k/\k<=4):sizL (layH h) k=(Zm h k).length:=by
 have h1:k=1\/k=2\/k=3\/k=4:=by omega
 rcases h1 with rfl|rfl|rfl|rfl<;>rfl
theorem Z6X{s p:Int}(h:Zs s p=true):unpk (Q1 s p).1=(s,p,0):=by
 have h2:=Zf.1 h;unfold Q1;rw[if_pos h];unfold unpk;have e1:2*(s+65536*p) / 2%65536=s:=by omega
 have e2:2*(s+65536*p) / 131072=p:=by omega
 simp only[e1,e2,h];rw[if_pos ⟨by omega,trivial⟩]
theorem qm(h:Hp)(p:Pl):RZ (refB h p)=true:=by
 unfold refB RZ;split
 ·rfl
 unfold Q3;split
 ·rfl
 ·rename_i h1;unfold adr;simp only;rw[if_neg (by omega),if_neg (by omega)];simp
theorem Z3A(b:Bt)(p:Pl)(to tw:Int):RZ (UG b p to tw)=true:=by
 unfold UG;split
 ·rfl
 split
 ·exact qm _ _
 split<;>exact qm _ _
theorem Rc{gone:Bool}{ptrs:Int}:∀ {l:List Int} {i:Nat},(∀(j:Nat) (w:Int),l[j]?=some w->(gone=true->w=0)/\(((i+j:Nat):Int)<ptrs->RZ w=true))->ZV l gone ptrs i=true
 | [],_,_=>rfl
 |w::l,i,h=>by
  obtain⟨h1,h2⟩:=h 0 w rfl
  have ih:ZV l gone ptrs (i+1)=true:=Rc λj y hy=>by
   have:=h (j+1) y hy;rw[show i+1+j=i+(j+1)by omega];exact this
  rw[ZV,ih];cases gone
  ·by_cases hp:(i:Int)<ptrs
   ·simp[h2 (by simpa using hp)]
   ·simp[hp]
  ·rw[h1 rfl];simp[RZ]
theorem K1{b:Bt}{p:Pl}{n:Nd}{tw:Int}{F r:List Int}{old:Bool}(hat:p.at_=(F.length:Nat))(hn:sizN n<=9):Stands (F++XF b p n tw++r) old ⟨p.at_,(n.ptrs.length:Int)+n.data.length,n.ptrs.length,false,0⟩:=by
 have hsh:Zs ((n.ptrs.length:Int)+n.data.length) n.ptrs.length=true:=by
  unfold sizN at hn;exact Zf.2 (by omega)
 have hw:(F++XF b p n tw++r)[F.length]?=some (hdrN n):=by
  rw[ZhR,Zh6 (ZgP _),Ziu];rfl
 have hu:=Z6X hsh;refine⟨by show 0<=p.at_;omega,hsh,?_,?_,hdrN n,by rw[hat];simpa using hw,?_⟩
 ·have:=Y7 b p n tw;unfold sizN at this;simp only[ZhZ,this,hat];omega
 ·simp only[hat,Zhl]
  have e:((F++XF b p n tw++r).drop (F.length+1)).take ((n.ptrs.length:Int)+n.data.length).toNat=Yi b p p.at_.toNat n.ptrs tw++n.data:=by
   have e1:((n.ptrs.length:Int)+n.data.length).toNat=(Yi b p p.at_.toNat n.ptrs tw++n.data).length:=by simp[Yi];omega
   rw[e1,ZhR,Zkj,Zil (by omega),Zjr,ZhM];have e2:(XF b p n tw++r).drop 1=(Yi b p p.at_.toNat n.ptrs tw++n.data)++r:=rfl;rw[e2,ZkJ]
  rw[e];refine Rc λj w hw=>⟨by simp,λhlt=> ?_⟩;have hlt':j<n.ptrs.length:=by simpa using hlt
  rw[Zhn (by simp[Yi];exact hlt')]at hw;simp only[Yi,Zh2,ZgK]at hw;obtain⟨q,_,rfl⟩:=hw;exact Z3A _ _ _ _
 ·simp only[ZgU,Zhr];exact⟨λ_=>Z7i (by unfold hdrN;rw[hu]),hu,trivial⟩
theorem Z1r{b:Bt}{p o:Pl}{n:Nd}{F r:List Int}(hat:o.at_=(F.length:Nat))(hn:sizN n<=9)(ha:(adr (refB b.h p)).2=0):Stands (F++TN b p n++r) true ⟨o.at_,(n.ptrs.length:Int)+n.data.length,n.ptrs.length,true,(adr (refB b.h p)).1⟩:=by
 have hsh:Zs ((n.ptrs.length:Int)+n.data.length) n.ptrs.length=true:=by
  unfold sizN at hn;exact Zf.2 (by omega)
 have hw:(F++TN b p n++r)[F.length]?=some (refB b.h p):=by
  rw[ZhR,Zh6 (ZgP _),Ziu];rfl
 refine⟨by show 0<=o.at_;omega,hsh,?_,?_,_,by rw[hat];simpa using hw,?_⟩
 ·have:=XY b p n;unfold sizN at this;simp only[ZhZ,this,hat];omega
 ·simp only[hat,Zhl]
  have e:((F++TN b p n++r).drop (F.length+1)).take ((n.ptrs.length:Int)+n.data.length).toNat=List.replicate (sizN n-1) 0:=by
   have e1:((n.ptrs.length:Int)+n.data.length).toNat=(List.replicate (sizN n-1) (0:Int)).length:=by simp[sizN];omega
   rw[e1,ZhR,Zkj,Zil (by omega),Zjr,ZhM];have e2:(TN b p n++r).drop 1=List.replicate (sizN n-1) 0++r:=rfl;rw[e2,ZkJ]
  rw[e];refine Rc λj w hw=> ?_;have:=(Zk4.1 (ZgQ hw)).2;subst this;exact⟨λ_=>rfl,λ_=>rfl⟩
 ·simp only[Zhp];exact⟨trivial,ha,trivial⟩
def obAt(b:Bt)(k:Int)(i:Nat):List Ob:=
 if(Za b i).part=k then [⟨(Za b i).at_,((ndAt b i).ptrs.length:Int)+(ndAt b i).data.length,(ndAt b i).ptrs.length,false,0⟩]
 else if(ZD b i).part=k then(if(Za b i).part=0 then [⟨(ZD b i).at_,((ndAt b i).ptrs.length:Int)+(ndAt b i).data.length,(ndAt b i).ptrs.length,false,0⟩]
  else [⟨(ZD b i).at_,((ndAt b i).ptrs.length:Int)+(ndAt b i).data.length,(ndAt b i).ptrs.length,true,(adr (refB b.h (Za b i))).1⟩])
 else []
def obs(b:Bt)(k:Int):List Ob:=(List.range b.g.nodes.length).flatMap (obAt b k)
section
variable {b:Bt}{x:Rw}
theorem Placed.nine(hpl:Placed b x)(h9:∀n∈b.g.nodes,sizN n<=9){i:Nat}(hi:i<b.g.nodes.length):sizN (ndAt b i)<=9:=by
 unfold ndAt;rw[ZgJ hi];exact h9 _ (ZgZ hi)
theorem Placed.len(hpl:Placed b x){k:Int}(hk:1<=k/\k<=4):sizL (layH b.h) k=((cat b x k b.g.nodes.length).length:Nat):=by
 rw[ju b.h hk,hpl.zero k hk];simp
theorem Placed.here_in(hpl:Placed b x){i:Nat}(hi:i<b.g.nodes.length)(hp:(Za b i).part≠0):((Za b i).part=1\/(Za b i).part=2)/\(Za b i).at_=((cat b x (Za b i).part i).length:Nat)/\(Za b i).at_+sizN (ndAt b i)<=sizL (layH b.h) (Za b i).part:=by
 rcases hpl.here i hi with ⟨h,_⟩|⟨h1,h2⟩
 ·rw[h]at hp;exact absurd rfl hp
 ·refine⟨h1,h2,?_⟩;have:=Z6w b x (Za b i).part hi;rw[hpl.len (by omega),h2];have e:blkB b x (Za b i).part i=XF b (Za b i) (ndAt b i) (IntKind.i64.wrap (x.slack+i)):=by unfold blkB;rw[if_pos rfl]
  rw[e,Y7]at this;omega
theorem Placed.old_in(hpl:Placed b x){i:Nat}(hi:i<b.g.nodes.length)(hp:(ZD b i).part≠0):((ZD b i).part=3\/(ZD b i).part=4)/\(ZD b i).at_=((cat b x (ZD b i).part i).length:Nat)/\(Za b i).part≠2/\(ZD b i).at_+sizN (ndAt b i)<=sizL (layH b.h) (ZD b i).part:=by
 rcases hpl.old i hi with h|⟨h1,h2,h3⟩
 ·rw[h]at hp;exact absurd rfl hp
 ·refine⟨h1,h2,h3,?_⟩;have:=Z6w b x (ZD b i).part hi;rw[hpl.len (by omega),h2]
  have hh:(Za b i).part=0\/(Za b i).part=1:=by
   by_cases h0:(Za b i).part=0
   ·exact .inl h0
   ·have:=(hpl.here_in hi h0).1;omega
  have e:(blkB b x (ZD b i).part i).length=sizN (ndAt b i):=by
   unfold blkB;rw[if_neg (by omega),if_pos rfl];split
   ·exact Y7 _ _ _ _
   ·exact XY _ _ _
  rw[e]at this;omega
theorem Placed.ref_here(hpl:Placed b x)(hr:Zl (layH b.h)=true){i:Nat}(hi:i<b.g.nodes.length)(hp:(Za b i).part≠0):refB b.h (Za b i)=refR (layH b.h) (Za b i).part (Za b i).at_:=by
 obtain⟨h1,h2,h3⟩:=hpl.here_in hi hp;have hs:1<=sizN (ndAt b i):=by unfold sizN;omega
 unfold refB;rw[if_neg hp,Sq hr (by omega) ⟨by omega,by omega⟩];have:=Y1 hr (Za b i).part;unfold Q3 refR;rw[if_neg (by omega)]
theorem Placed.ref_old(hpl:Placed b x)(hr:Zl (layH b.h)=true){i:Nat}(hi:i<b.g.nodes.length)(hp:(ZD b i).part≠0):refB b.h (ZD b i)=refR (layH b.h) (ZD b i).part (ZD b i).at_:=by
 obtain⟨h1,h2,_,h3⟩:=hpl.old_in hi hp;have hs:1<=sizN (ndAt b i):=by unfold sizN;omega
 unfold refB;rw[if_neg hp,Sq hr (by omega) ⟨by omega,by omega⟩];have:=Y1 hr (ZD b i).part;unfold Q3 refR;rw[if_neg (by omega)]
theorem qQ(hpl:Placed b x)(hr:Zl (layH b.h)=true)(h9:∀n∈b.g.nodes,sizN n<=9){k:Int}(hk:1<=k/\k<=4):∀(m i:Nat),i+m=b.g.nodes.length->Tiles (cat b x k b.g.nodes.length) (decide (2<k)) (cat b x k i).length ((List.range' i m).flatMap (obAt b k))
 |0,i,hi=>by
  have:i=b.g.nodes.length:=by omega
  subst this;exact ZgP _
 |m+1,i,hi=>by
  have ih:=qQ hpl hr h9 hk m (i+1) (by omega);have hlt:i<b.g.nodes.length:=by omega
  have h9i:=hpl.nine h9 hlt;obtain⟨r,hrr⟩:=TC b x k (show i+1<=b.g.nodes.length by omega);rw[List.range'_succ,Zkd];have hs:=YF b x k i;by_cases h1:(Za b i).part=k
  ·have hb:blkB b x k i=XF b (Za b i) (ndAt b i) (IntKind.i64.wrap (x.slack+i)):=by unfold blkB;rw[if_pos h1]
   have ho:obAt b k i=[⟨(Za b i).at_,((ndAt b i).ptrs.length:Int)+(ndAt b i).data.length,(ndAt b i).ptrs.length,false,0⟩]:=by unfold obAt;rw[if_pos h1]
   obtain⟨_,q2,_⟩:=hpl.here_in hlt (by omega);rw[h1]at q2;rw[ho];refine⟨q2,?_,?_⟩
   ·rw[hrr,hs,hb];exact K1 q2 h9i
   ·rw[hs,hb,ZhZ,Y7]at ih;have:(((ndAt b i).ptrs.length:Int)+(ndAt b i).data.length).toNat=sizN (ndAt b i) -1:=by unfold sizN;omega
    simp only[this];rw[show(cat b x k i).length+1+(sizN (ndAt b i) -1)=(cat b x k i).length+sizN (ndAt b i)by unfold sizN;omega];exact ih
  by_cases h2:(ZD b i).part=k
  ·obtain⟨q1,q2,q3,q4⟩:=hpl.old_in hlt (by omega);have hk3:2<k:=by omega
   rw[h2]at q2
   have hlen:(cat b x k (i+1)).length=(cat b x k i).length+1+(((ndAt b i).ptrs.length:Int)+(ndAt b i).data.length).toNat:=by
    have e:(blkB b x k i).length=sizN (ndAt b i):=by
     unfold blkB;rw[if_neg h1,if_pos h2];split
     ·exact Y7 _ _ _ _
     ·exact XY _ _ _
    rw[hs,ZhZ,e];unfold sizN;omega
   rw[hlen]at ih;by_cases h3:(Za b i).part=0
   ·have hb:blkB b x k i=XF b (ZD b i) (ndAt b i) 0:=by unfold blkB;rw[if_neg h1,if_pos h2,if_pos h3]
    have ho:obAt b k i=[⟨(ZD b i).at_,((ndAt b i).ptrs.length:Int)+(ndAt b i).data.length,(ndAt b i).ptrs.length,false,0⟩]:=by unfold obAt;rw[if_neg h1,if_pos h2,if_pos h3]
    rw[ho];refine⟨q2,?_,ih⟩;rw[hrr,hs,hb];exact K1 q2 h9i
   ·have hb:blkB b x k i=TN b (Za b i) (ndAt b i):=by unfold blkB;rw[if_neg h1,if_pos h2,if_neg h3]
    have ho:obAt b k i=[⟨(ZD b i).at_,((ndAt b i).ptrs.length:Int)+(ndAt b i).data.length,(ndAt b i).ptrs.length,true,(adr (refB b.h (Za b i))).1⟩]:=by unfold obAt;rw[if_neg h1,if_pos h2,if_neg h3]
    rw[ho];refine⟨q2,?_,ih⟩;rw[hrr,hs,hb,decide_eq_true hk3];refine Z1r q2 h9i ?_;obtain⟨u1,u2,_⟩:=hpl.here_in hlt h3;rw[hpl.ref_here hr hlt h3,Sr hr (by omega)]
  ·have hb:blkB b x k i=[]:=by unfold blkB;rw[if_neg h1,if_neg h2]
   have ho:obAt b k i=[]:=by unfold obAt;rw[if_neg h1,if_neg h2]
   rw[ho,ZhM];rw[hs,hb,ZhT]at ih;exact ih
theorem Z84(hpl:Placed b x)(hr:Zl (layH b.h)=true)(h9:∀n∈b.g.nodes,sizN n<=9){k:Int}(hk:1<=k/\k<=4):Tiles (Zm (Y8 x b) k) (decide (2<k)) 0 (obs b k):=by
 rw[KX hpl hk];have:=qQ hpl hr h9 hk b.g.nodes.length 0 (by omega);unfold obs;rw[List.range_eq_range'];exact this
theorem SU{k:Int}{o:Ob}:o∈obs b k↔ ∃i,i<b.g.nodes.length/\o∈obAt b k i:=by
 unfold obs;simp[Zij]
end
end
section
structure Made (b:Bt) (x:Rw):Prop where
 pl:Placed b x
 lay:Zl (layH b.h)=true
 nine:∀n∈b.g.nodes,sizN n<=9
 cyc:b.h.cycle=true->∀i,i<b.g.nodes.length->(Za b i).part=1->(ZD b i).part≠0
 scan:0<=b.h.scan/\b.h.scan<=b.h.low.length/\(if b.h.cycle then b.h.scan<b.h.low.length else b.h.scan=b.h.low.length/\b.h.old=[]/\b.h.far=[])
 room:(b.h.low.length:Int)+b.h.high.length+((wtL (obs b 3)+wtL (obs b 4):Nat):Int)<=b.h.cap
 fit:Fit b.h.scan
def ptsB(b:Bt):Pts:=⟨obs b 1,obs b 2,obs b 3,obs b 4⟩
theorem JH(b:Bt){k:Int}(hk:1<=k/\k<=4):(ptsB b).at k=obs b k:=by
 have h1:k=1\/k=2\/k=3\/k=4:=by omega
 rcases h1 with rfl|rfl|rfl|rfl<;>rfl
section
variable {b:Bt}{x:Rw}
theorem Made.fill(m:Made b x):(Y8 x b).ok/\layH (Y8 x b)=layH b.h/\(Y8 x b).scan=b.h.scan/\(Y8 x b).cycle=b.h.cycle:=Z1V m.pl.ok m.fit
theorem Made.tiles(m:Made b x){k:Int}(hk:1<=k/\k<=4):Tiles (Zm (Y8 x b) k) (decide (2<k)) 0 (obs b k):=Z84 m.pl m.lay m.nine hk
theorem Made.start(m:Made b x){k a:Int}(hk:1<=k/\k<=4)(ha:0<=a/\a<sizL (layH b.h) k):ZP (Y8 x b) k a=fstL (layH b.h) k+a:=by
 unfold ZP;rw[m.fill.2.1,Sq m.lay hk ha]
theorem Qr(n:Nd):1<=sizN n:=by unfold sizN;omega
theorem Made.ob_here(m:Made b x){i:Nat}(hi:i<b.g.nodes.length)(hp:(Za b i).part≠0):∃o∈obs b (Za b i).part,o.at_=(Za b i).at_/\o.size=((ndAt b i).ptrs.length:Int)+(ndAt b i).data.length/\o.ptrs=(ndAt b i).ptrs.length/\o.gone=false:=
 ⟨_,SU.2 ⟨i,hi,by unfold obAt;rw[if_pos rfl];exact .head _⟩,rfl,rfl,rfl,rfl⟩
theorem Made.ob_old(m:Made b x){i:Nat}(hi:i<b.g.nodes.length)(hp:(ZD b i).part≠0):∃o∈obs b (ZD b i).part,o.at_=(ZD b i).at_:=by
 obtain⟨h1,h2,h3,h4⟩:=m.pl.old_in hi hp
 have hne:¬(Za b i).part=(ZD b i).part:=by
  by_cases h0:(Za b i).part=0
  ·omega
  ·have:=(m.pl.here_in hi h0).1;omega
 by_cases h0:(Za b i).part=0
 ·exact⟨_,SU.2 ⟨i,hi,by unfold obAt;rw[if_neg hne,if_pos rfl,if_pos h0];exact .head _⟩,rfl⟩
 ·exact⟨_,SU.2 ⟨i,hi,by unfold obAt;rw[if_neg hne,if_pos rfl,if_neg h0];exact .head _⟩,rfl⟩
theorem Made.to_here(m:Made b x){i:Nat}(hi:i<b.g.nodes.length):Xl (Y8 x b) (ptsB b) (refB b.h (Za b i)) 1 2=true:=by
 by_cases h0:(Za b i).part=0
 ·have:refB b.h (Za b i)=0:=by unfold refB;rw[if_pos h0]
  rw[this];simp[Xl]
 ·obtain⟨h1,h2,h3⟩:=m.pl.here_in hi h0;have hs:=Qr (ndAt b i);obtain⟨o,ho,ha,_⟩:=m.ob_here hi h0;rw[m.pl.ref_here m.lay hi h0];unfold Xl;rw[Sr m.lay (by omega)]
  have:(atR (Y8 x b) (Za b i).part (obs b (Za b i).part) (fstL (layH b.h) (Za b i).part+(Za b i).at_)).isSome=true:=by
   refine Ss.2 ⟨o,ho,?_⟩;rw[ha,m.start (by omega) ⟨by omega,by omega⟩]
  rcases h1 with h|h
  ·rw[h]at this;rw[h];simp only[JH b (show 1<=(1:Int)/\(1:Int)<=4 by omega),this];simp
  ·rw[h]at this;rw[h];simp only[JH b (show 1<=(2:Int)/\(2:Int)<=4 by omega),this];simp
theorem Made.to_old(m:Made b x){i:Nat}(hi:i<b.g.nodes.length):Xl (Y8 x b) (ptsB b) (refB b.h (ZD b i)) 3 4=true:=by
 by_cases h0:(ZD b i).part=0
 ·have:refB b.h (ZD b i)=0:=by unfold refB;rw[if_pos h0]
  rw[this];simp[Xl]
 ·obtain⟨h1,h2,_,h3⟩:=m.pl.old_in hi h0;have hs:=Qr (ndAt b i);obtain⟨o,ho,ha⟩:=m.ob_old hi h0;rw[m.pl.ref_old m.lay hi h0];unfold Xl;rw[Sr m.lay (by omega)]
  have:(atR (Y8 x b) (ZD b i).part (obs b (ZD b i).part) (fstL (layH b.h) (ZD b i).part+(ZD b i).at_)).isSome=true:=by
   refine Ss.2 ⟨o,ho,?_⟩;rw[ha,m.start (by omega) ⟨by omega,by omega⟩]
  rcases h1 with h|h
  ·rw[h]at this;rw[h];simp only[JH b (show 1<=(3:Int)/\(3:Int)<=4 by omega),this];simp
  ·rw[h]at this;rw[h];simp only[JH b (show 1<=(4:Int)/\(4:Int)<=4 by omega),this];simp
theorem Made.same_at(m:Made b x){k:Int}(hk:1<=k/\k<=4){o q:Ob}(ho:o∈obs b k)(hq:q∈obs b k)(h:q.at_=o.at_):q=o:=by
 have ht:=m.tiles hk;rcases ht.apart q hq o ho with h1|h1|h1
 ·exact h1
 ·have:=Zf.1 (ht.stands q hq).1.shape;omega
 ·have:=Zf.1 (ht.stands o ho).1.shape;omega
theorem Made.ob_in(m:Made b x){k:Int}(hk:1<=k/\k<=4){o:Ob}(ho:o∈obs b k):0<=o.at_/\o.at_<sizL (layH b.h) k:=by
 have hs:=((m.tiles hk).stands o ho).1;have h1:=Zf.1 hs.shape;have h2:=hs.fits;have h3:=hs.nat;have:sizL (layH b.h) k=(Zm (Y8 x b) k).length:=by rw[<-m.fill.2.1,ju _ hk]
 omega
theorem Made.find(m:Made b x){k:Int}(hk:1<=k/\k<=4){o:Ob}(ho:o∈obs b k):atR (Y8 x b) k (obs b k) (fstL (layH b.h) k+o.at_)=some o:=by
 rw[<-m.start hk (m.ob_in hk ho)];refine Z8V ho λq hq e=>m.same_at hk ho hq ?_;rw[m.start hk (m.ob_in hk ho),m.start hk (m.ob_in hk hq)]at e;omega
theorem zq{k:Int}{i:Nat}{o:Ob}(h:o∈obAt b k i)(hg:o.gone=true):¬(Za b i).part=k/\(ZD b i).part=k/\¬(Za b i).part=0/\o=⟨(ZD b i).at_,((ndAt b i).ptrs.length:Int)+(ndAt b i).data.length,(ndAt b i).ptrs.length,true,(adr (refB b.h (Za b i))).1⟩:=by
 unfold obAt at h;split at h
 ·simp at h;subst h;simp at hg
 rename_i h1;split at h
 ·rename_i h2;split at h
  ·simp at h;subst h;simp at hg
  ·rename_i h3;simp at h;exact⟨h1,h2,h3,h⟩
 ·simp at h
theorem Made.gone(m:Made b x){k:Int}(hk:3<=k/\k<=4):KF (Y8 x b) (obs b 1) (obs b k):=by
 intro o ho hg;obtain⟨i,hi,hoi⟩:=SU.1 ho;obtain⟨h1,h2,h3,rfl⟩:=zq hoi hg;obtain⟨u1,u2,u3⟩:=m.pl.here_in hi h3;have hn2:=(m.pl.old_in hi (by omega)).2.2.1;have hp1:(Za b i).part=1:=by omega
 obtain⟨q,hq,q1,q2,q3,_⟩:=m.ob_here hi h3;rw[hp1]at hq;refine⟨q,?_,q2,q3⟩;simp only;rw[m.pl.ref_here m.lay hi h3,Sr m.lay (by omega),hp1,<-q1];exact m.find (by omega) hq
theorem Made.parts(m:Made b x):Yd (Y8 x b)=some (ptsB b):=
 Z2n (m.tiles (k:=1) (by omega)) (m.tiles (k:=2) (by omega)) (m.tiles (k:=3) (by omega)) (m.tiles (k:=4) (by omega)) (m.gone (by omega)) (m.gone (by omega))
theorem Lv(l r:List Ob)(a:Int):tgL (l++r) a=tgL l a+tgL r a:=by simp[tgL]
theorem ZdL(b:Bt)(k:Int)(j:Nat)(a:Int):tgL (obAt b k j) a=if ¬(Za b j).part=k/\(ZD b j).part=k/\¬(Za b j).part=0/\(adr (refB b.h (Za b j))).1=a then 1 else 0:=by
 unfold obAt;by_cases h1:(Za b j).part=k
 ·rw[if_pos h1,if_neg (λh=>h.1 h1)];simp[tgL]
 rw[if_neg h1];by_cases h2:(ZD b j).part=k
 ·rw[if_pos h2];by_cases h3:(Za b j).part=0
  ·rw[if_pos h3,if_neg (λh=>h.2.2.1 h3)];simp[tgL]
  ·rw[if_neg h3];by_cases h4:(adr (refB b.h (Za b j))).1=a
   ·rw[if_pos ⟨h1,h2,h3,h4⟩];simp[tgL,h4]
   ·rw[if_neg (λh=>h4 h.2.2.2)];simp[tgL,h4]
 ·rw[if_neg h2,if_neg (λh=>h2 h.2.1)];simp[tgL]
theorem Made.once(m:Made b x)(hc:b.h.cycle=true){i:Nat}(hi:i<b.g.nodes.length)(hp:(Za b i).part=1):Z6U (ptsB b) (fstL (layH b.h) 1+(Za b i).at_)=1:=by
 have key:∀j,j<=b.g.nodes.length->tgL ((List.range j).flatMap (obAt b 3)) (fstL (layH b.h) 1+(Za b i).at_)+tgL ((List.range j).flatMap (obAt b 4)) (fstL (layH b.h) 1+(Za b i).at_)=if i<j then 1 else 0:=by
  intro j
  induction j with
  |zero=>intro _;simp[tgL]
  |succ j ih=>
   intro hj;have ih:=ih (by omega);have hjl:j<b.g.nodes.length:=by omega
   rw[ZiA,Zix,Zix,Lv,Lv];simp only[Zkd,List.flatMap_nil,ZhT]
   have hone:tgL (obAt b 3 j) (fstL (layH b.h) 1+(Za b i).at_)+tgL (obAt b 4 j) (fstL (layH b.h) 1+(Za b i).at_)=if j=i then 1 else 0:=by
    rw[ZdL,ZdL];by_cases h0:(Za b j).part=0
    ·have:¬j=i:=λe=>by subst e;omega
     rw[if_neg this,if_neg (λh=>h.2.2.1 h0),if_neg (λh=>h.2.2.1 h0)]
    obtain⟨u1,u2,u3⟩:=m.pl.here_in hjl h0;by_cases hj1:(Za b j).part=1
    ·have ho:=m.cyc hc j hjl hj1;obtain⟨v1,_⟩:=m.pl.old_in hjl ho;have htg:(adr (refB b.h (Za b j))).1=fstL (layH b.h) 1+(Za b j).at_:=by rw[m.pl.ref_here m.lay hjl h0,Sr m.lay (by omega),hj1]
     have heq:(fstL (layH b.h) 1+(Za b j).at_=fstL (layH b.h) 1+(Za b i).at_)↔j=i:=by
      constructor
      ·intro e;obtain⟨w1,w2,w3⟩:=m.pl.here_in hi (by omega);rw[hj1]at u2;rw[hp]at w2;have hs1:=Qr (ndAt b i);have hs2:=Qr (ndAt b j);have bi:(blkB b x 1 i).length=sizN (ndAt b i):=by unfold blkB;rw[if_pos hp];exact Y7 _ _ _ _
       have bj:(blkB b x 1 j).length=sizN (ndAt b j):=by unfold blkB;rw[if_pos hj1];exact Y7 _ _ _ _
       by_cases hlt:j<i
       ·obtain⟨r,hr⟩:=TC b x 1 (show j+1<=i by omega);rw[YF]at hr;have:=ZhV List.length hr;simp[bj]at this;omega
       ·by_cases hgt:i<j
        ·obtain⟨r,hr⟩:=TC b x 1 (show i+1<=j by omega);rw[YF]at hr;have:=ZhV List.length hr;simp[bi]at this;omega
        ·omega
      ·rintro rfl;rfl
     rw[htg];rcases v1 with v|v
     ·rw[if_neg (show ¬(¬(Za b j).part=4/\(ZD b j).part=4/\_)fromλh=>by have:=h.2.1;omega)];by_cases hji:j=i
      ·rw[if_pos hji,if_pos ⟨by omega,v,h0,heq.2 hji⟩]
      ·rw[if_neg hji,if_neg (λh=>hji (heq.1 h.2.2.2))]
     ·rw[if_neg (show ¬(¬(Za b j).part=3/\(ZD b j).part=3/\_)fromλh=>by have:=h.2.1;omega)];by_cases hji:j=i
      ·rw[if_pos hji,if_pos ⟨by omega,v,h0,heq.2 hji⟩]
      ·rw[if_neg hji,if_neg (λh=>hji (heq.1 h.2.2.2))]
    ·have hp2:(Za b j).part=2:=by omega
     have hold:(ZD b j).part=0:=by
      by_cases h:(ZD b j).part=0
      ·exact h
      ·exact absurd hp2 (m.pl.old_in hjl h).2.2.1
     have:¬j=i:=λe=>by subst e;omega
     rw[if_neg this,if_neg (λh=>by have:=h.2.1;omega),if_neg (λh=>by have:=h.2.1;omega)]
   by_cases hji:j=i
   ·subst hji;rw[if_pos rfl]at hone;rw[if_neg (Nat.lt_irrefl _)]at ih;rw[if_pos (ZiT _)];omega
   ·rw[if_neg hji]at hone;by_cases hij:i<j
    ·rw[if_pos hij]at ih;rw[if_pos (show i<j+1 by omega)];omega
    ·rw[if_neg hij]at ih;rw[if_neg (show ¬i<j+1 by omega)];omega
 have:=key b.g.nodes.length (ZgP _);rw[if_pos hi]at this;exact this
end
end
section
section
variable {b:Bt}{x:Rw}
theorem Made.word(m:Made b x){k:Int}(hk:1<=k/\k<=4){i t:Nat}(hi:i<b.g.nodes.length)(ht:t< (blkB b x k i).length):(Zm (Y8 x b) k)[(cat b x k i).length+t]?=(blkB b x k i)[t]? :=by
 rw[KX m.pl hk];obtain⟨r,hr⟩:=TC b x k (show i+1<=b.g.nodes.length by omega);rw[hr,YF,ZhR,Zh6 (by omega),Zjr,Zhn ht]
theorem Lf{p:Pl}{n:Nd}{tw:Int}{j:Nat}(hj:j<n.ptrs.length):∃q∈n.ptrs,(XF b p n tw)[1+j]?=some (UG b ⟨p.part,((p.at_.toNat+1+j:Nat):Int)⟩ q (IntKind.i64.wrap (tw+j))):=by
 refine⟨n.ptrs[j],ZgZ hj,?_⟩;unfold XF;rw[ZjC 1 j,Zjn,Zhn (by simp[Yi];exact hj)];simp[Yi,hj]
theorem J8(h:Hp)(p:Pts)(k j:Int):Xl h p 0 k j=true:=by simp[Xl]
theorem Made.ptr_ok(m:Made b x)(hp:∀n∈b.g.nodes,∀q∈n.ptrs,-1<=q/\q< (b.g.nodes.length:Int)){i:Nat}(hi:i<b.g.nodes.length){k:Int}{p:Pl}(hk:p.part=k){a:Nat}{tq_ tw:Int}(hto:tq_∈(ndAt b i).ptrs)(hw:((Zm (Y8 x b) k)[a]?).getD 0=UG b ⟨p.part,(a:Int)⟩ tq_ tw):R3 (Y8 x b) (ptsB b) k a=true:=by
 have hb:=hp (ndAt b i) (by unfold ndAt;rw[ZgJ hi];exact ZgZ hi) tq_ hto;unfold R3;simp only[hw];unfold UG;rw[hk];by_cases h0:tq_<0
 ·rw[if_pos h0];simp[J8]
 obtain⟨t,rfl⟩:=Zh4 (show 0<=tq_ by omega);have ht:t<b.g.nodes.length:=by omega
 rw[if_neg h0];have g1:=m.to_here (i:=t) ht;have g2:=m.to_old (i:=t) ht;unfold Za at g1;unfold ZD at g2;simp only[Zhl];by_cases h2:2<k
 ·rw[if_pos h2,if_pos h2];exact g2
 rw[if_neg h2,if_neg h2];rw[m.fill.2.2.1];by_cases h3:k=1/\b.h.scan<=(a:Int)
 ·rw[if_pos h3];split
  ·rw[g2];simp
  ·rw[g1];simp
 ·rw[if_neg h3,if_neg (λh=>h3 ⟨h.1,h.2.1⟩)];exact g1
theorem Made.ptrs(m:Made b x)(hp:∀n∈b.g.nodes,∀q∈n.ptrs,-1<=q/\q< (b.g.nodes.length:Int)){k:Int}(hk:1<=k/\k<=4):WQ (Y8 x b) (ptsB b) k=true:=by
 unfold WQ;rw[JH b hk,ZgT];intro o ho;obtain⟨i,hi,hoi⟩:=SU.1 ho;unfold Z2f;rw[ZgT];intro j hj;rw[ZiN]at hj;unfold obAt at hoi;split at hoi
 ·rename_i h1;simp at hoi;subst hoi;simp only[Zhl]at hj;obtain⟨_,q2,_⟩:=m.pl.here_in hi (by omega);rw[h1]at q2;have hb:blkB b x k i=XF b (Za b i) (ndAt b i) (IntKind.i64.wrap (x.slack+i)):=by unfold blkB;rw[if_pos h1]
  obtain⟨q,hq,hs⟩:=Lf (b:=b) (p:=Za b i) (tw:=IntKind.i64.wrap (x.slack+i)) hj;have hw:=m.word hk hi (t:=1+j) (by rw[hb,Y7];unfold sizN;omega);rw[hb,hs]at hw;simp only;refine m.ptr_ok hp hi h1 (tw:=IntKind.i64.wrap (IntKind.i64.wrap (x.slack+i)+j)) hq ?_;rw[q2]at hw⊢;simp only[Zhl]at hw⊢;rw[<-Zif]at hw;rw[hw];rfl
 rename_i h1;split at hoi
 ·rename_i h2;obtain⟨_,q2,_⟩:=m.pl.old_in hi (by omega);rw[h2]at q2;split at hoi
  ·rename_i h3;simp at hoi;subst hoi;simp only[Zhl]at hj;have hb:blkB b x k i=XF b (ZD b i) (ndAt b i) 0:=by unfold blkB;rw[if_neg h1,if_pos h2,if_pos h3]
   obtain⟨q,hq,hs⟩:=Lf (b:=b) (p:=ZD b i) (tw:=0) hj;have hw:=m.word hk hi (t:=1+j) (by rw[hb,Y7];unfold sizN;omega);rw[hb,hs]at hw;simp only;refine m.ptr_ok hp hi h2 (tw:=IntKind.i64.wrap (0+j)) hq ?_;rw[q2]at hw⊢;simp only[Zhl]at hw⊢;rw[<-Zif]at hw;rw[hw];rfl
  ·rename_i h3;simp at hoi;subst hoi;simp only[Zhl]at hj;have hb:blkB b x k i=TN b (Za b i) (ndAt b i):=by unfold blkB;rw[if_neg h1,if_pos h2,if_neg h3]
   have hw:=m.word hk hi (t:=1+j) (by rw[hb,XY];unfold sizN;omega)
   have hz:(TN b (Za b i) (ndAt b i))[1+j]?=some 0:=by
    unfold TN;rw[ZjC 1 j,Zjn,List.getElem?_replicate,if_pos (by unfold sizN;omega)]
   rw[hb,hz]at hw;unfold R3;simp only;rw[q2,Zhl,show(cat b x k i).length+1+j=(cat b x k i).length+(1+j)by omega,hw];simp[J8]
 ·simp at hoi
theorem Made.right(m:Made b x)(hp:∀n∈b.g.nodes,∀q∈n.ptrs,-1<=q/\q< (b.g.nodes.length:Int)):Yq (Y8 x b)=true:=by
 have hl:=m.fill.2.1;have hlow:(Y8 x b).low.length=b.h.low.length:=by have:=ZhV Ly.low hl;simp only[layH]at this;omega
 have hhigh:(Y8 x b).high.length=b.h.high.length:=by have:=ZhV Ly.high hl;simp only[layH]at this;omega
 have hold:(Y8 x b).old.length=b.h.old.length:=by have:=ZhV Ly.old hl;simp only[layH]at this;omega
 have hfar:(Y8 x b).far.length=b.h.far.length:=by have:=ZhV Ly.far hl;simp only[layH]at this;omega
 have hcap:(Y8 x b).cap=b.h.cap:=ZhV Ly.cap hl;refine Z2v ?_ m.parts ?_
 ·unfold numR;have hs:=m.scan;have hrl:=m.pl.ok.rl;have hro:(Y8 x b).roots.length<=5:=by simp only[Y8,Zhu];exact hrl
  rw[hl,m.lay,m.fill.2.2.1,m.fill.2.2.2,hlow,hold,hfar];obtain⟨s1,s2,s3⟩:=hs;cases hc:b.h.cycle
  ·rw[hc]at s3;simp only[ZgU,Zhr]at s3;simp[s1,s2,s3];omega
  ·rw[hc]at s3;simp only[Zhp]at s3;simp[s1,s2,s3];omega
 ·unfold Sb;simp only[ZgM,Zh1];refine⟨⟨⟨⟨⟨⟨?_,?_⟩,m.ptrs hp (by omega)⟩,m.ptrs hp (by omega)⟩,m.ptrs hp (by omega)⟩,m.ptrs hp (by omega)⟩,?_⟩
  ·rw[m.fill.2.2.2];cases hc:b.h.cycle
   ·rfl
   ·simp only[Zja,Zj8,ZgT];intro o ho;obtain⟨i,hi,hoi⟩:=SU.1 ho
    have h1:(Za b i).part=1/\o.at_=(Za b i).at_:=by
     unfold obAt at hoi;split at hoi
     ·rename_i h1;simp at hoi;subst hoi;exact⟨h1,rfl⟩
     split at hoi
     ·rename_i h2;have:=(m.pl.old_in hi (by omega)).1;omega
     ·simp at hoi
    have hin:=m.ob_in (k:=1) (by omega) ho;unfold tgOk;rw[m.start (by omega) hin,h1.2,Zh1];exact m.once hc hi h1.1
  ·rw[ZgT];intro w hw;simp only[Y8,ZgX]at hw;obtain⟨r,hr,rfl⟩:=hw;have hrl:=m.pl.ok.rts r hr;by_cases h0:0<=r
   ·rw[if_pos h0];have hlk:=qr (x:=x) m.pl.ok b.g.nodes.length (ZgP _);rw[JL hlk];obtain⟨t,rfl⟩:=Zh4 h0;exact m.to_here (i:=t) (by omega)
   ·rw[if_neg h0];exact J8 _ _ _ _
  ·rw[hlow,hhigh,hcap];exact m.room
end
end
section
theorem Lx(l r:List Ob):wtL (l++r)=wtL l+wtL r:=by simp[wtL]
section
variable {x:Rw}{c:Bool}
theorem ZdW{b:Bt}(hpl:Placed b x){i:Nat}(hi:i<b.g.nodes.length):wtL (obAt b 3 i)+wtL (obAt b 4 i)=if(Za b i).part=0 then sizN (ndAt b i)else 0:=by
 have hz:((1:Nat)+(((ndAt b i).ptrs.length:Int)+(ndAt b i).data.length).toNat)=sizN (ndAt b i):=by unfold sizN;omega
 rcases hpl.here i hi with ⟨h1,k,hk,hok⟩|⟨h1,_⟩
 ·have h0:(Za b i).part=0:=by rw[h1]
  rw[if_pos h0];rcases hk with rfl|rfl<;>simp[obAt,h0,hok,wtL,wtO,hz]
 ·have e0:¬(Za b i).part=0:=by omega
  have e3:¬(Za b i).part=3:=by omega
  have e4:¬(Za b i).part=4:=by omega
  have:∀k:Int,¬(Za b i).part=k->wtL (obAt b k i)=0:=λk hk=>by
   unfold obAt;rw[if_neg hk,if_neg e0];split<;>simp[wtL,wtO]
  rw[if_neg e0,this 3 e3,this 4 e4]
theorem Z77(hx:x.ok):∀j,j<=(mkG x.nodes x.roots).nodes.length->wtL ((List.range j).flatMap (obAt (ZB x c) 3))+wtL ((List.range j).flatMap (obAt (ZB x c) 4))=(stN x c (mkG x.nodes x.roots) j).wt
 |0,_=>rfl
 |j+1,hj=>by
  have ih:=Z77 hx j (by omega);have h1:=ZdW (RR (c:=c) hx) (i:=j) (by rw[Ws];omega);rw[Jb (by omega)]at h1;have hn:ndAt (ZB x c) j=((mkG x.nodes x.roots).nodes[j]?).getD default:=rfl;rw[hn]at h1;rw[ZiA,Zix,Zix,Lx,Lx,stN];simp only[Zkd,List.flatMap_nil,ZhT];generalize ((mkG x.nodes x.roots).nodes[j]?).getD default=n at*;unfold Z0m at h1;simp only[ZU];rcases YW x j c with h0|h0|⟨h0,rfl⟩
  ·simp[h0]at h1⊢;omega
  ·simp[h0]at h1⊢;omega
  ·simp[h0]at h1⊢;omega
theorem Z7V(x:Rw)(c:Bool):∀n∈(ZB x c).g.nodes,∀q∈n.ptrs,-1<=q/\q< ((ZB x c).g.nodes.length:Int):=by
 rw[Ws];exact Z5T x.nodes x.roots
theorem ZcQ(hc:c=false):∀j,(stN x c (mkG x.nodes x.roots) j).n3=0/\(stN x c (mkG x.nodes x.roots) j).n4=0
 |0=>⟨rfl,rfl⟩
 |j+1=>by
  have:=ZcQ hc j;subst hc;simpa[stN,ZU]using this
theorem made(hx:x.ok)(hc:c=true->(ZB x true).h.low.length≠0):Made (ZB x c) x:=by
 obtain⟨k1,k2,k3⟩:=Sk hx c;refine⟨RR hx,k3,?_,?_,?_,?_,k2⟩
 ·rw[Ws];exact sz9 x
 ·intro hcy i hi h1;have hct:c=true:=hcy;subst hct;rw[Ws]at hi;rw[Jb hi]at h1;rw[Z2i hi];unfold Z0m at h1;unfold oldF;rcases YW x i true with h0|h0|⟨h0,_⟩
  ·simp[h0]at h1
  ·simp[h0];cases clsF x i<;>simp
  ·simp[h0]at h1
 ·have hlow:(ZB x c).h.low.length=(stN x c (mkG x.nodes x.roots) (mkG x.nodes x.roots).nodes.length).n1:=by simp[ZB]
  cases c
  ·obtain⟨e3,e4⟩:=ZcQ (x:=x) (c:=false) rfl (mkG x.nodes x.roots).nodes.length;rw[hlow];have hs:(ZB x false).h.scan=((stN x false (mkG x.nodes x.roots) (mkG x.nodes x.roots).nodes.length).n1:Int):=by simp[ZB]
   have hcy:(ZB x false).h.cycle=false:=rfl;rw[hs,hcy];simp only[ZgU,Zhr];refine⟨by omega,by omega,trivial,?_,?_⟩<;>simp[ZB,e3,e4]
  ·have h0:=hc rfl;rw[hlow]at h0;rw[hlow]
   have hs:(ZB x true).h.scan=pick x.scan (stN x true (mkG x.nodes x.roots) (mkG x.nodes x.roots).nodes.length).n1:=by
    simp only[ZB];rw[if_pos ⟨trivial,by omega⟩]
   have hcy:(ZB x true).h.cycle=true:=rfl;have hp:=Wz (c:=x.scan) (n:=((stN x true (mkG x.nodes x.roots) (mkG x.nodes x.roots).nodes.length).n1:Int)) (by omega);rw[hs,hcy];simp only[Zhp];omega
 ·have hw:=Z77 (c:=c) hx (mkG x.nodes x.roots).nodes.length (ZgP _);have hl:(ZB x c).h.low.length=(stN x c (mkG x.nodes x.roots) (mkG x.nodes x.roots).nodes.length).n1:=by simp[ZB]
  have hh:(ZB x c).h.high.length=(stN x c (mkG x.nodes x.roots) (mkG x.nodes x.roots).nodes.length).n2:=by simp[ZB]
  have hcap:(ZB x c).h.cap=max (((stN x c (mkG x.nodes x.roots) (mkG x.nodes x.roots).nodes.length).n1:Int)+(stN x c (mkG x.nodes x.roots) (mkG x.nodes x.roots).nodes.length).n2+(stN x c (mkG x.nodes x.roots) (mkG x.nodes x.roots).nodes.length).wt) (((stN x c (mkG x.nodes x.roots) (mkG x.nodes x.roots).nodes.length).n3:Int)+(stN x c (mkG x.nodes x.roots) (mkG x.nodes x.roots).nodes.length).n4)+pick x.slack 12:=rfl;have hp:=Wz (c:=x.slack) (n:=12) (by omega);unfold obs;rw[Ws,hw,hl,hh,hcap];omega
theorem Z3p(hx:x.ok):∃c,Ja x=Y8 x (ZB x c)/\Made (ZB x c) x:=by
 unfold Ja;by_cases h:(ZB x true).h.low.length=0
 ·rw[if_pos h];exact⟨false,rfl,made hx (by simp)⟩
 ·rw[if_neg h];exact⟨true,rfl,made hx λ_=>h⟩
theorem Z0l(hx:x.ok):Yq (Ja x)=true:=by
 obtain⟨c,h,m⟩:=Z3p hx;rw[h];exact m.right (Z7V x c)
end
end
section
theorem Zal(l:List Nd):NoM (.sl (l.map ndV)):=by
 have h:=Z2e ⟨l,[]⟩;unfold grV at h;cases h with
 |agg _ h=>exact h _ (by simp)
theorem ZcS(x:Rw):NoM (rwV x):=.agg _ λc hc=>by
 simp only[Zh0,Zia,Zjx]at hc;rcases hc with rfl|rfl|rfl|rfl|rfl|rfl|rfl
 all_goals first|exact .int _ _|exact Zal _|exact Zfe _
theorem Z7d{x:Rw}(hx:x.ok):VC (bes Try.prog) 16 false [rwV x] (hpV (Ja x)):=up (Z9x hx) (nom1 (ZcS x)) (Z5Z _)
theorem Zbf{h:Hp}(hh:h.ok):VC (bes Try.prog) 22 false [hpV h] (vi (Z4j h)):=up (ZeM hh) (nom1 (Z5Z h)) (.int _ _)
section
variable {h:Hp}{p:Pts}
theorem Rt.vg_right(r:Rt h p):Vm.right (vg h)=true:=r.view_right r.nroots r.roots
theorem Rt.ofG(r:Rt h p):ofG h=(Xd (vg h),0):=if_pos ⟨r.right,r.vg_right⟩
theorem Rt.liveR(r:Rt h p):liveR h=words (Xd (vg h)):=by
 unfold Vm.liveR;rw[r.ofG,if_pos rfl]
theorem Rt.live_le(r:Rt h p):(words (Xd (vg h)):Int)<=h.low.length+h.high.length+Rh p:=by
 have h1:=Z06 r.vg_right;have h2:=r.view_words h.roots;have h3:words (vg h)=wsum ((YD h).gr h.roots).nodes:=if_pos r.vg_right;omega
def Sc(h:Hp)(w:Int):Int:=Tq (vg h) ((YD h).toA w)
theorem Z8K(h:Hp):(Xd (vg h)).roots=h.roots.map (Sc h):=by
 simp only[Xd,Xf,vg,Vw.gr,Zj5];rfl
theorem Rt.root0(r:Rt h p):Sc h 0= -1:=by simp[Sc,Vw.toA,Tq]
theorem Rt.root1(r:Rt h p){w:Int}(hw:w∈h.roots)(h0:w≠0):0<=Sc h w/\Sc h w< (Xd (vg h)).nodes.length/\(YD h).toA w∈order (vg h):=by
 obtain⟨n,f,h1,h2,h3⟩:=r.to_root (r.roots w hw) h0;have hm:(YD h).toA w∈order (vg h):=qt r.vg_right (by simp only[vg,Vw.gr];exact List.mem_map_of_mem hw) (by omega);have:=LF hm;refine⟨?_,?_,hm⟩
 ·unfold Sc Tq;rw[if_pos (by omega)];exact this.1
 ·unfold Sc Tq;rw[if_pos (by omega),QU];exact this.2.1
theorem Rt.root_eq(r:Rt h p){w v:Int}(hw:w∈h.roots)(hv:v∈h.roots):decide (w=v)=decide (Sc h w=Sc h v):=by
 by_cases e:w=v
 ·rw[e];simp
 ·have:¬Sc h w=Sc h v:=λk=>by
   by_cases h0:w=0
   ·have:=r.root1 hv (λk=>e (by rw[h0,k]));rw[h0,r.root0]at k;omega
   ·have hw1:=r.root1 hw h0;by_cases k0:v=0
    ·rw[k0,r.root0]at k;omega
    ·have hv1:=r.root1 hv k0;exact e (r.to_inj (r.roots w hw) (r.roots v hv) (Z1u r.vg_right _ hw1.2.2 _ hv1.2.2 k))
  simp[e,this]
theorem Rt.root_nil(r:Rt h p){w:Int}(hw:w∈h.roots):decide (w=0)=decide (Sc h w= -1):=by
 by_cases e:w=0
 ·rw[e,r.root0];simp
 ·have:=r.root1 hw e;have:¬Sc h w= -1:=by omega
  simp[e,this]
theorem Rt.root_lt(r:Rt h p){w:Int}(hw:w∈h.roots):¬(Xd (vg h)).nodes.length<=Sc h w:=by
 by_cases e:w=0
 ·rw[e,r.root0];omega
 ·have:=r.root1 hw e;omega
end
theorem Zfb{h:Hp}(hz:∀w∈h.roots,w=0):liveR h=0:=by
 unfold liveR ofG;split
 ·split
  ·rename_i k _;unfold words;rw[if_pos (Z1g k.2)]
   have:order (vg h)=[]:=Z0V λx hx=>by
    simp only[vg,Vw.gr,ZgX]at hx;obtain⟨w,hw,rfl⟩:=hx;rw[hz w hw];simp[Vw.toA]
   simp only[Xd,this,ZiL];rfl
  ·rename_i h0;exact absurd h0 (by simp)
 ·rfl
instance fitViewLive:FitF (bes Try.prog) 4:=Z4X (P:=Try.prog) Try.func4 rfl (by kernel_rfl)
theorem Z5y{x:Rw}(hx:x.ok):VC (bes Try.prog) 4 false [rwV x] (.bool true):=by
 refine Z9 (P:=bes Try.prog) Try.func4 Qa (by kernel_rfl) c4 rfl ?_;simp[p4];refine Z1 Z2X (by simp) ?_;simp;have kh:=Z7d hx;unfold rwV at kh;refine Z1 kh (by simp) ?_;obtain⟨hh,hl,hro⟩:=Z7E hx;obtain⟨p,r⟩:=jk.1 (Z0l hx);generalize Ja x=h at*;have kl:=LA hh;have ko:=ya hh;have hsm:=Z9b hh;rw[r.ofG]at ko hsm;rw[r.liveR]at kl;have kw:=yd hsm;have kc:=Zbf hh;rw[r.wait]at kc;have hle:=r.live_le;have h1:=hh.low;have h2:=hh.high
 have h3:Rh p<=4096:=by
  have:=r.room;have:=Ys.1 hl;simp only[layH]at this;omega
 have w1:=Z6 ((h.low.length:Int)+h.high.length) (by omega) (by omega);have w2:=Z6 ((h.low.length:Int)+h.high.length+Rh p) (by omega) (by omega);have hrr:=Z8K h
 have hdok:(⟨h.base,h.cap,h.to,h.cycle,h.scan,h.low,h.high,h.old,h.far,List.replicate h.roots.length 0⟩:Hp).ok:=⟨hh.base,hh.cap,hh.to,hh.scan,hh.low,hh.high,hh.old,hh.far,by simp;exact hh.roots,hh.lowW,hh.highW,hh.oldW,hh.farW,λw hw=>by
  rw[(Zk4.1 hw).2];simp[U64]⟩
 have kd:=LA hdok;rw[Zfb λw hw=>(Zk4.1 hw).2]at kd;simp only[hpV]at kl ko kc kd;have q1:=λw hw=>r.root_nil (w:=w) hw;have q2:=λw hw=>r.root_lt (w:=w) hw;have q3:=λw v hw hv=>r.root_eq (w:=w) (v:=v) hw hv;simp only[grV]at ko kw;rw[hrr,Zj5]at ko kw;generalize Xd (vg h)=g at*;simp;refine Z1 kl (by simp) ?_;simp;refine Z1 ko (by simp) ?_;simp;refine Z1 kw (by simp) ?_;simp;refine Z1 kc (by simp) ?_;have hle':¬((h.low.length:Int)+h.high.length+Rh p<words g):=by omega
 have hnn:¬((words g:Int)<0):=by omega
 simp[w1,w2,hle',hnn];refine YJ 9 h.roots.length (λi=>[(9,.v (vi i))]) (λ_=>True) (by simp) (by simp) trivial ?_;intro i hi _;by_cases hlt:i<h.roots.length
 ·obtain⟨a,ha⟩:∃a,h.roots[i]=a:=⟨_,rfl⟩;have hx1:h.roots[i]?=some a:=by rw[ZgJ hlt,ha]
  have hm:=ZgQ hx1;have e1:=q1 a hm;have e2:=q2 a hm;have hw:=Z6 ((i:Int)+1) (by omega) (by omega);simp[hlt,hx1,ha,hw];refine⟨decide_eq_decide.1 e1,by omega,?_⟩;refine YJ 12 i (λk=>[(12,.v (vi k))]) (λ_=>True) (by simp) (by simp) trivial ?_;intro k hk _;by_cases hkl:k<i
  ·obtain⟨b,hb⟩:∃b,h.roots[k]=b:=⟨_,rfl⟩;have hy1:h.roots[k]?=some b:=by rw[ZgJ (by omega),hb]
   have e3:=decide_eq_decide.1 (q3 a b hm (ZgQ hy1));have hwk:=Z6 ((k:Int)+1) (by omega) (by omega);have hkl':k<h.roots.length:=by omega
   simp[hkl,hkl',hlt,hx1,hy1,ha,hb,hwk];exact e3
  ·have:k=i:=by omega
   subst this;simp[hw,hlt]
 ·have:i=h.roots.length:=by omega
  subst this;simp;simp only[List.map_replicate]at kd;refine⟨by unfold lim;omega,?_⟩;refine Z1 kd (λ_=>rfl) ?_;simp
end
end Vm
end
section
namespace Go.Proofs.Ytffknkhabklijaa
open Vm Go.ChangeShapes Go.WideShapes Go.ChangeAt Go.RowKit
def viewLive_law(xs:List V)(hl:xs.length=Try.f4.params.toList.length)(ht:∀(i:Nat) (t:TypeId) (x:V),Try.f4.params.toList[i]?=some t->xs[i]?=some x->tyV Try.prog 8 t x):
  VC (bes Try.prog) 4 false xs (.bool true):=by
 rw[Try.params4]at hl ht
 match xs,hl with
 | [x0],_=>
   obtain⟨x,rfl,hx⟩:=ZfL (ht 0 _ x0 rfl rfl);exact Z5y hx
def viewLive_lifted(os:Os)(started:os.Started)(H:Type)(enc:TypeId×Value->H):
  ReturnsInLeavingWide {} Try.checked os 4 .any (Rows.viewLiveSpec.pre6 enc Try.prog Try.f4 Rows.viewLiveRow.domain false) (Rows.viewLiveSpec.post enc Try.prog Try.f4 false true false false):=by
 refine returnsInLeavingWide_of_change_sized (C:=Try.checked) own started Try.func4
  (ChangeSpec.witness6 (enc:=enc) (C:=Try.checked) false ⟨#[], #[.agg #[.slice none 0 0,.slice none 0 0,.slice none 0 0,.int .u64 0,.int .i64 0,.int .i64 0,.int .i64 0]],[]⟩ 8 (by kernel_rfl) (by kernel_rfl) (by kernel_rfl) (by kernel_rfl)) ?_
 intro W base args ds gs before hval hW _ _ _
 exact za (P:=Try.prog) (by kernel_rfl) (zj (P:=bes Try.prog) (tb:=4) 8 laidOut (by kernel_rfl) (by kernel_rfl) rfl (by kernel_rfl) Try.underlying4 (λH ds hd=>by
  rw[Try.params4]at hd
  match ds,hd with
  | [_],_=>rfl) viewLive_law H enc W base args ds gs before hval hW)
theorem viewLive_holds:Rows.ViewLiveSaid:=
 OpenClaim.holds_of_wide_leaving 4 Try.f4 rfl rfl rfl rfl rfl rfl rfl ⟨rfl,rfl,rfl,rfl,rfl⟩ rfl rfl rfl rfl rfl (by kernel_rfl) Try.func4 (by kernel_rfl)
  (Zjb (by kernel_rfl)) (by unfold Func.isWrapper;first|(rw[if_pos (by decide+kernel)];kernel_rfl)|(rw[if_neg (by decide+kernel)];exact⟨rfl,rfl⟩))
  (λos started H enc _=>viewLive_lifted os started H enc)
#print axioms viewLive_holds
end Go.Proofs.Ytffknkhabklijaa
end
