import Derived.Recover
import Derived.OwnWalkIn
import Derived.TacticsInMore
import Derived.LoopNIn
import Derived.LoopIn
import Derived.Shelf.RegionOpen
import Derived.RecoverIn
import Derived.RangeFuncBox
import Derived.Maps.AppendAt
import Derived.Maps.OwnIn
import Derived.Laws.StructEq
import Derived.Lib.Hide
import Derived.Conc.EventLaws
import Derived.Test.YtffknkhabklijaaSViewRest5
set_option linter.unusedSimpArgs false
set_option linter.unusedVariables false
set_option linter.defProp false
set_option maxHeartbeats 4000000
set_option maxRecDepth 100000
def Zhu:=@_root_.Go.Lib.hid
def ZkV:=@_root_.eq_false
def ZiV:=@_root_.Go.bodyPost_ret
def ZiE:=@_root_.Go.World.cell?_alloc_lt
def ZhD:=@_root_.Go.RowKit.Below.heap_setCell
def Zjs:=@_root_.Array.replicate_succ
def Zjt:=@_root_.Array.replicate_zero
def ZjP:=@_root_.List.push_toArray
def Zjz:=@_root_.List.append_toArray
def Zkf:=@_root_.Go.callsIn_wide
def ZjV:=@_root_.Go.grownBy_setCell'
def Zkl:=@_root_.List.findIdx?_eq_none_iff
def ZiL:=@_root_.List.flatMap_append
def Zj0:=@_root_.List.getElem?_take_of_lt
def Zkv:=@_root_.List.drop_append
def ZjJ:=@_root_.Nat.add_sub_cancel_left
def Zkn:=@_root_.List.take_left
def Zkq:=@_root_.List.flatMap_cons
section
namespace Vm
open Go Go.Proofs Go.RowKit
theorem Z3V{x:Int}(hx:U64 x):VC Sol.prog 135 false [vu x] (.bool (Q7 x)):=by
 refine Z9 Sol.func135 follows (by kernel_rfl) c135 rfl ?_;simp[p135];refine Z1 (yp hx) (by simp) ?_;simp_all[Q7]
theorem Si{x:Int}(hx:U64 x)(w:World):Calls Sol.prog 135 #[.int .u64 x] w λe w'=>e=.returned (.bool (Q7 x))/\Below w.heap.size w w':=
 WL (Z3V hx) rfl rfl w
structure Words (w:World) (ws:List Int) (g o cap:Nat):Prop where
 at_:∀(i:Nat) (x:Int),ws[i]?=some x->w.cell? ⟨g,o+i,none⟩=some (.int .u64 x)
 le:ws.length<=cap
 cap:cap<=maxLen
 len:ws.length<=1000000
 u64:∀x∈ws,U64 x
def XK(e:Int):List PanicEntry:=[{v:=.iface 189 (.agg #[.int .i64 e]),recovered:=false}]
def obA(o:Ob):Value:=.agg #[.int .i64 o.at_,.int .i64 o.size,.int .i64 o.ptrs,.bool o.gone,.int .u64 o.target]
def Z7R(ws:List Int)(o:Ob):Ending:=
 if(ws.length:Int)<o.at_+1+o.size then .panicked (XK 2)else if Y2 ((ws.drop (o.at_.toNat+1)).take o.size.toNat) o.gone o.ptrs 0=false then .panicked (XK 3)else .returned (.tuple #[])
theorem Z5i(w:World)(ws:List Int)(g o cap:Nat)(hw:Words w ws g o cap)(hg:g<w.heap.size)(ob:Ob)(a:Nat)(ha:ob.at_=a)(hlt:a<ws.length)(hsh:Zs ob.size ob.ptrs=true):
  Calls Sol.prog 134 #[.slice (some ⟨g,o,none⟩) ws.length cap,obA ob] w λe w'=>e=Z7R ws ob/\Below w.heap.size w w':=by
 have hl:=hw.len;have hc:=hw.le;have hm:=hw.cap;obtain⟨at_,size,ptrs,gone,target⟩:=ob;simp only at ha hsh;subst ha;obtain⟨s1,s2,s3,s4⟩:=Zf.1 hsh;obtain⟨m,rfl⟩:=Zhf s1;have HW:=Zhu hw;have he:Z7R ws ⟨a,m,ptrs,gone,target⟩=if(ws.length:Int)<a+1+m then .panicked (XK 2)else if Y2 ((ws.drop (a+1)).take m) gone ptrs 0=false then .panicked (XK 3)else .returned (.tuple #[]):=rfl
 generalize Z7R ws ⟨a,m,ptrs,gone,target⟩=E at*;unfold obA;dsimp only;by_cases hfit:(ws.length:Int)<a+1+m
 ·rw[if_pos hfit]at he;have HE:=Zhu he;clear he;have hlt2:((ws.length- (a+1):Nat):Int)<m:=by omega
  go_enter Sol.func134,Try.ntmps134;go_wp2
  all_goals exact⟨rfl,HE.out.symm,(ZhL _ _).alloc (Zh1 _) _⟩
 ·rw[if_neg hfit]at he;have HE:=Zhu he;clear he;have hge2:(m:Int)<=((ws.length- (a+1):Nat):Int):=by omega
  have hge3:m<=ws.length- (a+1):=by omega
  have hnlt:(ws.length- (a+1)<m)=False:=ZkV (by omega);have hcm:m<=cap- (a+1):=by omega
  have hm5:m<=255:=by omega
  clear hw hfit;by_cases hcap:cap=a+1
  ·have hm0:m=0:=by omega
   subst hm0;subst hcap;go_enter Sol.func134,Try.ntmps134;go_wp2
   go_loopw [26] (λi wr=>i=.int .i64 0/\Hid (Below w.heap.size w wr)) (λi _=>0)
   case atStart=>exact⟨rfl,Zhu ((ZhL _ _).alloc (Zh1 _) _)⟩
   case round=>
    obtain⟨rfl,HB⟩:=hrel;go_wp2
    go_end0
    exact⟨HE.out.symm,HB.out⟩
  ·go_enter Sol.func134,Try.ntmps134;go_wp2
   go_loopw [26] (λi wr=>∃k:Nat,i=.int .i64 k/\k<=m/\Hid (Below w.heap.size w wr/\wr.heap[w.heap.size]?=some (.cells #[.int .i64 a,.int .i64 m,.int .i64 ptrs,.bool gone,.int .u64 target] 59 (0,0))/\
     Y2 ((ws.drop (a+1)).take m) gone ptrs 0=Y2 (((ws.drop (a+1)).take m).drop k) gone ptrs k)) (λi _=>m- (intOf i).toNat)
   case atStart=>exact⟨0,rfl,by omega,Zhu ⟨(ZhL _ _).alloc (Zh1 _) _,ZhH w _,rfl⟩⟩
   case round=>
    obtain⟨k,rfl,hk,HI⟩:=hrel;by_cases hlt:k<m
    ·obtain⟨x,hx⟩:∃x,ws[a+1+k]?=some x:=⟨_,ZgV (by omega)⟩;have hu:U64 x:=HW.out.u64 x (Zh2 hx)
     have hT:((ws.drop (a+1)).take m)[k]?=some x:=by
      rw[Zhy,if_pos hlt,ZhF];exact hx
     have c0:wr.cell? ⟨g,o+(a+1)+k,none⟩=some (.int .u64 x):=by
      rw[Zis];exact(HI.out.1.cell (p:=⟨g,o+(a+1+k),none⟩) hg).trans (HW.out.at_ _ _ hx)
     have c1:wr.cell? ⟨w.heap.size,1,none⟩=some (.int .i64 m):=by rw[Zhg _ _ _ _ _ _ HI.out.2.1];rfl
     have c2:wr.cell? ⟨w.heap.size,2,none⟩=some (.int .i64 ptrs):=by rw[Zhg _ _ _ _ _ _ HI.out.2.1];rfl
     have c3:wr.cell? ⟨w.heap.size,3,none⟩=some (.bool gone):=by rw[Zhg _ _ _ _ _ _ HI.out.2.1];rfl
     have hs:=jD (gone:=gone) (ptrs:=ptrs) hT;have hlt':(k:Int)<m:=by omega
     have hbs:=ZI HI.out.2.1;clear hx hT
     have stop:Y2 (((ws.drop (a+1)).take m).drop k) gone ptrs k=false->E=.panicked (XK 3):=λh=>by
      rw[HE.out,HI.out.2.2,h,if_pos rfl]
     cases gone
     ·by_cases hp:(k:Int)<ptrs
      ·cases hip:Q7 x
       ·have HE2:=Zhu (stop (by simp_all));clear stop hs
        go_wp2_with (go_at_call 135;refine(Si hu _).mono ?_;rintro e w1 ⟨rfl,hb1⟩;have HB1:=Zhu hb1;clear hb1)
        exact⟨rfl,HE2.out.symm,HI.out.1.trans (HB1.out.mono HI.out.1.size)⟩
       ·have HS:=Zhu (hs.trans (by simp[hip]:_=Y2 (((ws.drop (a+1)).take m).drop (k+1)) false ptrs (k+1)));clear stop hs
        go_wp2_with (go_at_call 135;refine(Si hu _).mono ?_;rintro e w1 ⟨rfl,hb1⟩;have HB1:=Zhu hb1;clear hb1)
        go_wp2
        go_roundw
        case rel=>
         exact⟨k+1,by go_num,by omega,Zhu ⟨HI.out.1.trans (HB1.out.mono HI.out.1.size),(HB1.out.block _ hbs).trans HI.out.2.1,HI.out.2.2.trans HS.out⟩⟩
        case measure=>grind [intOf]
      ·have HS:=Zhu (hs.trans (by simp[hp]:_=Y2 (((ws.drop (a+1)).take m).drop (k+1)) false ptrs (k+1)));clear stop hs;go_wp2
       go_roundw
       case rel=>exact⟨k+1,by go_num,by omega,Zhu ⟨HI.out.1,HI.out.2.1,HI.out.2.2.trans HS.out⟩⟩
       case measure=>grind [intOf]
     ·by_cases h0:x=0
      ·subst h0;have HS:=Zhu (hs.trans (by simp[Q7]:_=Y2 (((ws.drop (a+1)).take m).drop (k+1)) true ptrs (k+1)));clear stop hs;go_wp2
       go_roundw
       case rel=>exact⟨k+1,by go_num,by omega,Zhu ⟨HI.out.1,HI.out.2.1,HI.out.2.2.trans HS.out⟩⟩
       case measure=>grind [intOf]
      ·have HE2:=Zhu (stop (by simp_all));clear stop hs;go_wp2;exact⟨rfl,HE2.out.symm,HI.out.1⟩
    ·have:k=m:=by omega
     subst this;have h3:=HI.out.2.2;have hd:((ws.drop (a+1)).take k).drop k=[]:=Ziy (by simp_all);rw[hd]at h3;have HE2:=Zhu (HE.out.trans (by rw[h3];rfl:_=Ending.returned (.tuple #[])));clear h3 hd;go_wp2
     go_end0
     exact⟨HE2.out.symm,HI.out.1⟩
end Vm
namespace Vm
open Go Go.Proofs Go.RowKit
theorem ZaA(w:World):Sem.run Sol.prog (binOp .neq 190 .nilFunc .nilFunc) w=.ok (.bool false) w:=by rfl
theorem Z65(w:World)(f:FuncId)(vs:Array Value):Sem.run Sol.prog (binOp .neq 190 (.func (.func f) #[] vs) .nilFunc) w=.ok (.bool true) w:=by rfl
theorem row5{w:World}{b:Nat}{T:TypeId}{v0 v1 v2 v3 v4:Value}(h:w.heap[b]?=some (.cells #[v0,v1,v2,v3,v4] T (0,0)))(O:Obj):
  ((w.alloc O).cell? ⟨b,0,none⟩=some v0/\(w.alloc O).cell? ⟨b,1,none⟩=some v1/\(w.alloc O).cell? ⟨b,2,none⟩=some v2/\(w.alloc O).cell? ⟨b,3,none⟩=some v3/\(w.alloc O).cell? ⟨b,4,none⟩=some v4)/\
  (w.alloc O).frozen? ⟨b,0,none⟩=false/\(w.alloc O).frozen? ⟨b,1,none⟩=false/\(w.alloc O).frozen? ⟨b,2,none⟩=false/\(w.alloc O).frozen? ⟨b,3,none⟩=false/\(w.alloc O).frozen? ⟨b,4,none⟩=false:=by
 have h':(w.alloc O).heap[b]?=some (.cells #[v0,v1,v2,v3,v4] T (0,0)):=(Zi2 _ _ _ (ZI h)).trans h;refine⟨⟨?_,?_,?_,?_,?_⟩,X1 h',X1 h',X1 h',X1 h',X1 h'⟩<;>(rw[Zhg _ _ _ _ _ _ h'];rfl)
def begE(a:Nat)(x:Int):Ending:=if(unpk x).2.2=0 then .returned (obA ⟨a,(unpk x).1,(unpk x).2.1,false,0⟩)else .panicked (XK 3)
theorem Z4K(w:World)(ws:List Int)(g o cap:Nat)(hw:Words w ws g o cap)(hg:g<w.heap.size)(a:Nat)(x:Int)(hx:ws[a]?=some x):
  Calls Sol.prog 133 #[.slice (some ⟨g,o,none⟩) ws.length cap,.int .i64 a,.nilFunc] w λe w'=>e=begE a x/\Below w.heap.size w w':=by
 have hl:=hw.len;have hc:=hw.le;have hm:=hw.cap;have hlt:a<ws.length:=(ZgX.1 hx).1;have hlt':(a:Int)<ws.length:=by omega
 have hu:U64 x:=hw.u64 x (Zh2 hx);have c0:=hw.at_ a x hx;have cc:∀W,Below w.heap.size w W->W.cell? ⟨g,o+a,none⟩=some (.int .u64 x):=λW hb=>(hb.cell (p:=⟨g,o+a,none⟩) hg).trans c0;have he:begE a x=if(unpk x).2.2=0 then .returned (obA ⟨a,(unpk x).1,(unpk x).2.1,false,0⟩)else .panicked (XK 3):=rfl
 generalize begE a x=E at*;have HC:=Zhu cc;have hnil:=ZaA;clear hw hx cc;by_cases h0:(unpk x).2.2=0
 ·rw[if_pos h0]at he;have HE:=Zhu he;clear he;go_enter Sol.func133,Try.ntmps133
  go_wp2_with (first
   |(go_at_call 44;refine(WI hu _).mono ?_;rintro e w1 ⟨rfl,hb1⟩;have HB1:=Zhu hb1;have d0:=HC.out w1 (((((ZhL _ w).alloc (Zh1 _) _).alloc (by simp) _).trans (hb1.mono (by simp;omega))));clear hb1)
   | (go_at_call 69;refine(UO hu _).mono ?_;rintro e w2 ⟨rfl,hb2⟩;have HB2:=Zhu hb2
      have hB:=HB1.out.block;have r0:w2.heap[w.heap.size]?=some (.cells #[.int .i64 0,.int .i64 0,.int .i64 0,.bool false,.int .u64 0] 59 (0,0)):=(hb2.block _ (by have:=HB1.out.size;simp at this;omega)).trans ((HB1.out.block _ (by simp;omega)).trans ((Zi2 _ _ _ (by simp)).trans (ZhH w _)));have r1:w2.heap[w.heap.size+1]?=some (.cells #[.int .i64 a,.int .i64 0,.int .i64 0,.bool false,.int .u64 0] 59 (0,0)):=(hb2.block _ (by have:=HB1.out.size;simp at this;omega)).trans ((HB1.out.block _ (by simp)).trans (by have:=ZhH (w.alloc (.cells #[.int .i64 0,.int .i64 0,.int .i64 0,.bool false,.int .u64 0] 59)) (.cells #[.int .i64 a,.int .i64 0,.int .i64 0,.bool false,.int .u64 0] 59);simp_all));obtain⟨⟨x0,x1,x2,x3,x4⟩,y0,y1,y2,y3,y4⟩:=row5 r0 (.cells #[.int .i64 (unpk x).1,.int .i64 (unpk x).2.1] 52);obtain⟨⟨p0,p1,p2,p3,p4⟩,q0,q1,q2,q3,q4⟩:=row5 r1 (.cells #[.int .i64 (unpk x).1,.int .i64 (unpk x).2.1] 52);have HR:=Zhu (And.intro r0 r1);clear hb2 hB r0 r1))
  refine ZiV (v:=obA ⟨a,(unpk x).1,(unpk x).2.1,false,0⟩) ?_ rfl ⟨HE.out.symm,?_⟩
  ·simp[results,Try.results133,go_sem,obA,x0,x1,x2,x3,x4]
  ·have h1:=(((ZhL _ w).alloc (Zh1 _) (.cells #[.int .i64 0,.int .i64 0,.int .i64 0,.bool false,.int .u64 0] 59)).alloc (by simp) (.cells #[.int .i64 a,.int .i64 0,.int .i64 0,.bool false,.int .u64 0] 59)).trans (HB1.out.mono (by simp;omega));have h2:=(h1.trans (HB2.out.mono (by have:=h1.size;omega))).alloc (by have:=h1.size;have:=HB2.out.size;omega) (.cells #[.int .i64 (unpk x).1,.int .i64 (unpk x).2.1] 52);exact((((((h2.setCell (p:=⟨w.heap.size+1,1,none⟩) (by simp) _).setCell (p:=⟨w.heap.size+1,2,none⟩) (by simp) _).setCell (p:=⟨w.heap.size,0,none⟩) (Zh1 _) _).setCell (p:=⟨w.heap.size,1,none⟩) (Zh1 _) _).setCell (p:=⟨w.heap.size,2,none⟩) (Zh1 _) _).setCell (p:=⟨w.heap.size,3,none⟩) (Zh1 _) _).setCell (p:=⟨w.heap.size,4,none⟩) (Zh1 _) _
 ·rw[if_neg h0]at he;have HE:=Zhu he;clear he;have h0':((unpk x).2.2=0)=False:=ZkV h0;go_enter Sol.func133,Try.ntmps133
  go_wp2_with (first
   |(go_at_call 44;refine(WI hu _).mono ?_;rintro e w1 ⟨rfl,hb1⟩;have HB1:=Zhu hb1;have d0:=HC.out w1 (((((ZhL _ w).alloc (Zh1 _) _).alloc (by simp) _).trans (hb1.mono (by simp;omega))));clear hb1)
   |(go_at_call 69;refine(UO hu _).mono ?_;rintro e w2 ⟨rfl,hb2⟩;have HB2:=Zhu hb2;clear hb2))
  refine⟨rfl,HE.out.symm,?_⟩;have h1:=(((ZhL _ w).alloc (Zh1 _) (.cells #[.int .i64 0,.int .i64 0,.int .i64 0,.bool false,.int .u64 0] 59)).alloc (by simp) (.cells #[.int .i64 a,.int .i64 0,.int .i64 0,.bool false,.int .u64 0] 59)).trans (HB1.out.mono (by simp;omega));exact(h1.trans (HB2.out.mono (by have:=h1.size;omega))).alloc (by have:=h1.size;have:=HB2.out.size;omega) _
end Vm
namespace Vm
open Go Go.Proofs Go.RowKit
theorem Sw(s p:Int)(w:World):Calls Sol.prog 94 #[.agg #[.int .i64 s,.int .i64 p]] w λe w'=>e=.returned (.bool (Zs s p))/\Below w.heap.size w w':=
 WL jr rfl rfl w
structure Shps (w:World) (shs:List (Int×Int)) (bs:Nat) (v:Value):Prop where
 box:w.heap[bs]?=some (.cells #[v] 180 (0,0))
 val:(∃g o cap,v=.slice (some ⟨g,o,none⟩) shs.length cap/\shs.length<=cap/\cap<=maxLen/\g<w.heap.size/\∀(i:Nat) (x:Int×Int),shs[i]?=some x->w.cell? ⟨g,o+i*2,none⟩=some (.int .i64 x.1)/\w.cell? ⟨g,o+i*2+1,none⟩=some (.int .i64 x.2))\/
  (∃a cap,v=.slice a 0 cap/\shs=[])
theorem Z7P(w:World)(shs:List (Int×Int))(bt bs:Nat)(v:Value)(hl:shs.length<=1000000)(hs:Shps w shs bs v)(hb:w.heap[bt]?=some (.cells #[.int .i64 shs.length] 3 (0,0))):
  Calls Sol.prog 129 #[.pointer (some ⟨bt,0,none⟩),.pointer (some ⟨bs,0,none⟩)] w λe w'=>e=.panicked (XK 3)/\Below w.heap.size w w':=by
 have c0:w.cell? ⟨bt,0,none⟩=some (.int .i64 shs.length):=by rw[Zhg _ _ _ _ _ _ hb];rfl
 have hbl:=ZI hb;have hbl2:=ZI hs.box;have c1:w.cell? ⟨bs,0,none⟩=some v:=by rw[Zhg _ _ _ _ _ _ hs.box];rfl
 rcases hs.val with ⟨g,o,cap,rfl,h1,h2,h3,h4⟩|⟨a,cap,rfl,rfl⟩
 ·clear h4 hs hb;go_enter Sol.func129,Try.ntmps129;go_wp2;exact⟨rfl,rfl,(ZhL _ _).alloc (Zh1 _) _⟩
 ·clear hs hb;simp only[ZiM]at c0;go_enter Sol.func129,Try.ntmps129;go_wp2;exact⟨rfl,rfl,(ZhL _ _).alloc (Zh1 _) _⟩
theorem Z7O(w:World)(shs:List (Int×Int))(bt bs t:Nat)(v:Value)(x:Int×Int)(hl:shs.length<=1000000)(hs:Shps w shs bs v)(hb:w.heap[bt]?=some (.cells #[.int .i64 t] 3 (0,0)))(hx:shs[t]?=some x)(hn:Zs x.1 x.2=false):
  Calls Sol.prog 129 #[.pointer (some ⟨bt,0,none⟩),.pointer (some ⟨bs,0,none⟩)] w λe w'=>e=.panicked (XK 3)/\Below w.heap.size w w':=by
 have c0:w.cell? ⟨bt,0,none⟩=some (.int .i64 t):=by rw[Zhg _ _ _ _ _ _ hb];rfl
 have hbl:=ZI hb;have hbl2:=ZI hs.box;have hlt:t<shs.length:=(ZgX.1 hx).1;have hne:¬t=shs.length:=by omega
 have hlt':(t:Int)<shs.length:=by omega
 have c1:w.cell? ⟨bs,0,none⟩=some v:=by rw[Zhg _ _ _ _ _ _ hs.box];rfl
 rcases hs.val with ⟨g,o,cap,rfl,h1,h2,h3,h4⟩|⟨a,cap,rfl,rfl⟩
 ·obtain⟨d0,d1⟩:=h4 t x hx;have e2:=Sw x.1 x.2;rw[hn]at e2;clear h4 hs hb hx hn;go_enter Sol.func129,Try.ntmps129
  go_wp2_with (go_at_call 94;refine(e2 _).mono ?_;rintro e w1 ⟨rfl,hb1⟩;have HB1:=Zhu hb1;clear hb1)
  exact⟨rfl,rfl,((ZhL _ w).alloc (Zh1 _) _).trans (HB1.out.mono (by simp))⟩
 grind
theorem Za9(w:World)(shs:List (Int×Int))(bt bs t:Nat)(v:Value)(x:Int×Int)(hl:shs.length<=1000000)(hs:Shps w shs bs v)(hb:w.heap[bt]?=some (.cells #[.int .i64 t] 3 (0,0)))(hx:shs[t]?=some x)(hn:Zs x.1 x.2=true)(hbs:bs≠bt)
  (hgb:∀g o cap,v=.slice (some ⟨g,o,none⟩) shs.length cap->g≠bt):
  Calls Sol.prog 129 #[.pointer (some ⟨bt,0,none⟩),.pointer (some ⟨bs,0,none⟩)] w λe w'=>e=.returned (.agg #[.int .i64 x.1,.int .i64 x.2])/\w.grownBy w' (some bt)/\w'.heap[bt]?=some (.cells #[.int .i64 ((t+1:Nat):Int)] 3 (0,0)):=by
 have c0:w.cell? ⟨bt,0,none⟩=some (.int .i64 t):=by rw[Zhg _ _ _ _ _ _ hb];rfl
 have hbl:=ZI hb;have hbl2:=ZI hs.box;have hlt:t<shs.length:=(ZgX.1 hx).1;have hne:¬t=shs.length:=by omega
 have hlt':(t:Int)<shs.length:=by omega
 have c1:w.cell? ⟨bs,0,none⟩=some v:=by rw[Zhg _ _ _ _ _ _ hs.box];rfl
 have hf:=X1 (o:=0) hb;have hbs':¬bs=bt:=hbs;have hbs2:¬bt=bs:=λe=>hbs e.symm;rcases hs.val with ⟨g,o,cap,rfl,h1,h2,h3,h4⟩|⟨a,cap,rfl,rfl⟩
 ·obtain⟨d0,d1⟩:=h4 t x hx;have hg:=hgb g o cap rfl;have e2:=Sw x.1 x.2;rw[hn]at e2;have HB:=Zhu hb;clear h4 hs hb hx hn hgb;go_enter Sol.func129,Try.ntmps129
  go_wp2_with (go_at_call 94;refine(e2 _).mono ?_;rintro e w1 ⟨rfl,hb1⟩
               have HB1:=Zhu hb1;have s1:=hb1.size;have k0:w1.cell? ⟨bt,0,none⟩=some (.int .i64 t):=(hb1.cell (p:=⟨bt,0,none⟩) (by simp;omega)).trans ((ZiE _ _ _ hbl).trans c0);have k1:w1.frozen? ⟨bt,0,none⟩=false:=X1 ((hb1.block bt (by simp;omega)).trans ((Zi2 _ _ _ hbl).trans HB.out));have k2:w1.cell? ⟨bs,0,none⟩=some (.slice (some ⟨g,o,none⟩) shs.length cap):=(hb1.cell (p:=⟨bs,0,none⟩) (by simp;omega)).trans ((ZiE _ _ _ hbl2).trans c1);have k3:w1.cell? ⟨g,o+t*2,none⟩=some (.int .i64 x.1):=(hb1.cell (p:=⟨g,o+t*2,none⟩) (by simp;omega)).trans ((ZiE _ _ _ h3).trans d0);have k4:w1.cell? ⟨g,o+t*2+1,none⟩=some (.int .i64 x.2):=(hb1.cell (p:=⟨g,o+t*2+1,none⟩) (by simp;omega)).trans ((ZiE _ _ _ h3).trans d1);have r0:w1.heap[w.heap.size]?=some (.cells #[.int .i64 0,.int .i64 0] 52 (0,0)):=(hb1.block _ (by simp)).trans (ZhH w _);have x0:w1.cell? ⟨w.heap.size,0,none⟩=some (.int .i64 0):=by rw[Zhg _ _ _ _ _ _ r0];rfl
               have x1:w1.cell? ⟨w.heap.size,1,none⟩=some (.int .i64 0):=by rw[Zhg _ _ _ _ _ _ r0];rfl
               have y0:=X1 (o:=0) r0;have y1:=X1 (o:=1) r0;have n1:¬w.heap.size=bt:=by omega
               have n2:¬bt=w.heap.size:=by omega
               have HR:=Zhu r0;clear hb1 r0)
  have hB:Below w.heap.size w w1:=((ZhL _ w).alloc (Zh1 _) (.cells #[.int .i64 0,.int .i64 0] 52)).trans (HB1.out.mono (by simp));have hw1:w1.heap[bt]?=some (.cells #[.int .i64 t] 3 (0,0)):=(hB.block bt hbl).trans HB.out;refine ZiV (v:=.agg #[.int .i64 x.1,.int .i64 x.2]) ?_ rfl ⟨rfl,⟨hB.os,hB.tape,hB.output,?_,λk hk hne=> ?_⟩,?_⟩
  ·simp[results,Try.results129,go_sem,x0,x1,n1,n2]
  ·simp[World.setCell];exact hB.size
  ·have hkb:k≠bt:=λe=>hne (by rw[e]);rw[ZhD _ _ _ _ (by grind),ZhD _ _ _ _ (by grind),ZhD _ _ _ _ hkb];exact hB.block k hk
  simp_all[ZhD,World.setCell,ZiB]
 grind
end Vm
namespace Vm
open Go Go.Proofs Go.RowKit
theorem LV(w:World)(f:FuncId)(vs:Array Value)(ws:List Int)(g o cap:Nat)(hw:Words w ws g o cap)(hg:g<w.heap.size)(a:Nat)(x:Int)(hx:ws[a]?=some x)(hna:¬(adr x).2=0):
  Calls Sol.prog 133 #[.slice (some ⟨g,o,none⟩) ws.length cap,.int .i64 a,.func (.func f) #[] vs] w λe w'=>e=begE a x/\Below w.heap.size w w':=by
 have hl:=hw.len;have hc:=hw.le;have hm:=hw.cap;have hlt:a<ws.length:=(ZgX.1 hx).1;have hlt':(a:Int)<ws.length:=by omega
 have hu:U64 x:=hw.u64 x (Zh2 hx);have c0:=hw.at_ a x hx;have cc:∀W,Below w.heap.size w W->W.cell? ⟨g,o+a,none⟩=some (.int .u64 x):=λW hb=>(hb.cell (p:=⟨g,o+a,none⟩) hg).trans c0;have he:begE a x=if(unpk x).2.2=0 then .returned (obA ⟨a,(unpk x).1,(unpk x).2.1,false,0⟩)else .panicked (XK 3):=rfl
 generalize begE a x=E at*;have HC:=Zhu cc;have hfn:=λW=>Z65 W f vs;have hna':((adr x).2=0)=False:=ZkV hna;clear hw hx cc;by_cases h0:(unpk x).2.2=0
 ·rw[if_pos h0]at he;have HE:=Zhu he;clear he;go_enter Sol.func133,Try.ntmps133
  go_wp2_with (first
   |(go_at_call 44;refine(WI hu _).mono ?_;rintro e w1 ⟨rfl,hb1⟩;have HB1:=Zhu hb1;have d0:=HC.out w1 (((((ZhL _ w).alloc (Zh1 _) _).alloc (by simp) _).trans (hb1.mono (by simp;omega))));clear hb1)
   | (go_at_call 69;refine(UO hu _).mono ?_;rintro e w2 ⟨rfl,hb2⟩;have HB2:=Zhu hb2
      have hB:=HB1.out.block;have r0:w2.heap[w.heap.size]?=some (.cells #[.int .i64 0,.int .i64 0,.int .i64 0,.bool false,.int .u64 0] 59 (0,0)):=(hb2.block _ (by have:=HB1.out.size;simp at this;omega)).trans ((HB1.out.block _ (by simp;omega)).trans ((Zi2 _ _ _ (by simp)).trans (ZhH w _)));have r1:w2.heap[w.heap.size+1]?=some (.cells #[.int .i64 a,.int .i64 0,.int .i64 0,.bool false,.int .u64 0] 59 (0,0)):=(hb2.block _ (by have:=HB1.out.size;simp at this;omega)).trans ((HB1.out.block _ (by simp)).trans (by have:=ZhH (w.alloc (.cells #[.int .i64 0,.int .i64 0,.int .i64 0,.bool false,.int .u64 0] 59)) (.cells #[.int .i64 a,.int .i64 0,.int .i64 0,.bool false,.int .u64 0] 59);simp_all));obtain⟨⟨x0,x1,x2,x3,x4⟩,y0,y1,y2,y3,y4⟩:=row5 r0 (.cells #[.int .i64 (unpk x).1,.int .i64 (unpk x).2.1] 52);obtain⟨⟨p0,p1,p2,p3,p4⟩,q0,q1,q2,q3,q4⟩:=row5 r1 (.cells #[.int .i64 (unpk x).1,.int .i64 (unpk x).2.1] 52);have HR:=Zhu (And.intro r0 r1);clear hb2 hB r0 r1))
  refine ZiV (v:=obA ⟨a,(unpk x).1,(unpk x).2.1,false,0⟩) ?_ rfl ⟨HE.out.symm,?_⟩
  ·simp[results,Try.results133,go_sem,obA,x0,x1,x2,x3,x4]
  ·have h1:=(((ZhL _ w).alloc (Zh1 _) (.cells #[.int .i64 0,.int .i64 0,.int .i64 0,.bool false,.int .u64 0] 59)).alloc (by simp) (.cells #[.int .i64 a,.int .i64 0,.int .i64 0,.bool false,.int .u64 0] 59)).trans (HB1.out.mono (by simp;omega));have h2:=(h1.trans (HB2.out.mono (by have:=h1.size;omega))).alloc (by have:=h1.size;have:=HB2.out.size;omega) (.cells #[.int .i64 (unpk x).1,.int .i64 (unpk x).2.1] 52);exact((((((h2.setCell (p:=⟨w.heap.size+1,1,none⟩) (by simp) _).setCell (p:=⟨w.heap.size+1,2,none⟩) (by simp) _).setCell (p:=⟨w.heap.size,0,none⟩) (Zh1 _) _).setCell (p:=⟨w.heap.size,1,none⟩) (Zh1 _) _).setCell (p:=⟨w.heap.size,2,none⟩) (Zh1 _) _).setCell (p:=⟨w.heap.size,3,none⟩) (Zh1 _) _).setCell (p:=⟨w.heap.size,4,none⟩) (Zh1 _) _
 ·rw[if_neg h0]at he;have HE:=Zhu he;clear he;have h0':((unpk x).2.2=0)=False:=ZkV h0;go_enter Sol.func133,Try.ntmps133
  go_wp2_with (first
   |(go_at_call 44;refine(WI hu _).mono ?_;rintro e w1 ⟨rfl,hb1⟩;have HB1:=Zhu hb1;have d0:=HC.out w1 (((((ZhL _ w).alloc (Zh1 _) _).alloc (by simp) _).trans (hb1.mono (by simp;omega))));clear hb1)
   |(go_at_call 69;refine(UO hu _).mono ?_;rintro e w2 ⟨rfl,hb2⟩;have HB2:=Zhu hb2;clear hb2))
  refine⟨rfl,HE.out.symm,?_⟩;have h1:=(((ZhL _ w).alloc (Zh1 _) (.cells #[.int .i64 0,.int .i64 0,.int .i64 0,.bool false,.int .u64 0] 59)).alloc (by simp) (.cells #[.int .i64 a,.int .i64 0,.int .i64 0,.bool false,.int .u64 0] 59)).trans (HB1.out.mono (by simp;omega));exact(h1.trans (HB2.out.mono (by have:=h1.size;omega))).alloc (by have:=h1.size;have:=HB2.out.size;omega) _
theorem US(w:World)(vs:Array Value)(ws:List Int)(g o cap:Nat)(hw:Words w ws g o cap)(hg:g<w.heap.size)(a:Nat)(x:Int)(hx:ws[a]?=some x)(hna:(adr x).2=0)
  (hcall:∀W,Below w.heap.size w W->Calls Sol.prog 129 vs W λe W'=>e=.panicked (XK 3)/\Below W.heap.size W W'):
  Calls Sol.prog 133 #[.slice (some ⟨g,o,none⟩) ws.length cap,.int .i64 a,.func (.func 129) #[] vs] w λe w'=>e=.panicked (XK 3)/\Below w.heap.size w w':=by
 have hl:=hw.len;have hc:=hw.le;have hm:=hw.cap;have hlt:a<ws.length:=(ZgX.1 hx).1;have hlt':(a:Int)<ws.length:=by omega
 have hu:U64 x:=hw.u64 x (Zh2 hx);have c0:=hw.at_ a x hx;have hfn:=λW=>Z65 W 129 vs;have HX:=Zhu hcall;clear hw hx hcall;go_enter Sol.func133,Try.ntmps133
 go_wp2_with (first
  | (go_at_call 44;refine(WI hu _).mono ?_;rintro e w1 ⟨rfl,hb1⟩
     have hB:Below w.heap.size w w1:=((((ZhL _ w).alloc (Zh1 _) _).alloc (by simp) _).trans (hb1.mono (by simp;omega)));have r1:w1.heap[w.heap.size+1]?=some (.cells #[.int .i64 a,.int .i64 0,.int .i64 0,.bool false,.int .u64 0] 59 (0,0)):=(hb1.block _ (by simp)).trans (by have:=ZhH (w.alloc (.cells #[.int .i64 0,.int .i64 0,.int .i64 0,.bool false,.int .u64 0] 59)) (.cells #[.int .i64 a,.int .i64 0,.int .i64 0,.bool false,.int .u64 0] 59);simp_all);have p3:w1.cell? ⟨w.heap.size+1,3,none⟩=some (.bool false):=by rw[Zhg _ _ _ _ _ _ r1];rfl
     have p4:w1.cell? ⟨w.heap.size+1,4,none⟩=some (.int .u64 0):=by rw[Zhg _ _ _ _ _ _ r1];rfl
     have q3:=X1 (o:=3) r1;have q4:=X1 (o:=4) r1;have HB:=Zhu hB;clear hb1 hB r1)
  |(go_at_call 129;refine(HX.out _ ?_).mono ?_;rotate_left;rintro e w2 ⟨rfl,hb2⟩;have HB2:=Zhu hb2;clear hb2))
 case refine_1=>exact(HB.out.setCell (p:=⟨w.heap.size+1,3,none⟩) (by simp) _).setCell (p:=⟨w.heap.size+1,4,none⟩) (by simp) _
 case refine_2=>
  have h2:=(HB.out.setCell (p:=⟨w.heap.size+1,3,none⟩) (by simp) (.bool true)).setCell (p:=⟨w.heap.size+1,4,none⟩) (by simp) (.int .u64 (adr x).1);exact⟨rfl,rfl,h2.trans (HB2.out.mono h2.size)⟩
theorem Z5g{w W:World}{r:Option Nat}(h:w.grownBy W r){p:Addr}(hp:w.heap.size<=p.block)(u:Value):w.grownBy (W.setCell p u) r:=
 ⟨h.os,h.tape,h.output,by simpa[World.setCell]using h.size,λk hk hne=>(ZhD _ _ _ _ (by omega)).trans (h.block k hk hne)⟩
theorem LU(w:World)(vs:Array Value)(ws:List Int)(g o cap:Nat)(hw:Words w ws g o cap)(hg:g<w.heap.size)(a:Nat)(x:Int)(hx:ws[a]?=some x)(hna:(adr x).2=0)
  (bt:Nat) (O:Obj) (s p:Int) (hbt:bt<w.heap.size)
  (hcall:∀W,Below w.heap.size w W->Calls Sol.prog 129 vs W λe W'=>e=.returned (.agg #[.int .i64 s,.int .i64 p])/\W.grownBy W' (some bt)/\W'.heap[bt]?=some O):
  Calls Sol.prog 133 #[.slice (some ⟨g,o,none⟩) ws.length cap,.int .i64 a,.func (.func 129) #[] vs] w λe w'=>e=.returned (obA ⟨a,s,p,true,(adr x).1⟩)/\w.grownBy w' (some bt)/\w'.heap[bt]?=some O:=by
 have hl:=hw.len;have hc:=hw.le;have hm:=hw.cap;have hlt:a<ws.length:=(ZgX.1 hx).1;have hlt':(a:Int)<ws.length:=by omega
 have hu:U64 x:=hw.u64 x (Zh2 hx);have c0:=hw.at_ a x hx;have hfn:=λW=>Z65 W 129 vs;have HX:=Zhu hcall;clear hw hx hcall;go_enter Sol.func133,Try.ntmps133
 go_wp2_with (first
  | (go_at_call 44;refine(WI hu _).mono ?_;rintro e w1 ⟨rfl,hb1⟩
     have hB:Below w.heap.size w w1:=((((ZhL _ w).alloc (Zh1 _) _).alloc (by simp) _).trans (hb1.mono (by simp;omega)));have r1:w1.heap[w.heap.size+1]?=some (.cells #[.int .i64 a,.int .i64 0,.int .i64 0,.bool false,.int .u64 0] 59 (0,0)):=(hb1.block _ (by simp)).trans (by have:=ZhH (w.alloc (.cells #[.int .i64 0,.int .i64 0,.int .i64 0,.bool false,.int .u64 0] 59)) (.cells #[.int .i64 a,.int .i64 0,.int .i64 0,.bool false,.int .u64 0] 59);simp_all);have p3:w1.cell? ⟨w.heap.size+1,3,none⟩=some (.bool false):=by rw[Zhg _ _ _ _ _ _ r1];rfl
     have p4:w1.cell? ⟨w.heap.size+1,4,none⟩=some (.int .u64 0):=by rw[Zhg _ _ _ _ _ _ r1];rfl
     have q3:=X1 (o:=3) r1;have q4:=X1 (o:=4) r1;have r0:w1.heap[w.heap.size]?=some (.cells #[.int .i64 0,.int .i64 0,.int .i64 0,.bool false,.int .u64 0] 59 (0,0)):=(hb1.block _ (by simp;omega)).trans ((Zi2 _ _ _ (by simp)).trans (ZhH w _));have HR:=Zhu (And.intro r0 r1);have HB:=Zhu hB;clear hb1 hB r0 r1)
  | (go_at_call 129;refine(HX.out _ ?_).mono ?_;rotate_left;rintro e w2 ⟨rfl,hb2,ho2⟩
     have HB2:=Zhu hb2;have HO2:=Zhu ho2;have z1:w2.heap[w.heap.size+1]?=some (.cells #[.int .i64 a,.int .i64 0,.int .i64 0,.bool true,.int .u64 (adr x).1] 59 (0,0)):=(hb2.block _ (by simp[World.setCell];exact ZI HR.out.2) (by simp;omega)).trans (by simp[World.setCell,ZiB,HR.out.2]);have z0:w2.heap[w.heap.size]?=some (.cells #[.int .i64 0,.int .i64 0,.int .i64 0,.bool false,.int .u64 0] 59 (0,0)):=(hb2.block _ (by simp[World.setCell];exact ZI HR.out.1) (by simp;omega)).trans (by simp[World.setCell,ZiB,HR.out.1]);have s0:w2.cell? ⟨w.heap.size+1,0,none⟩=some (.int .i64 a):=by rw[Zhg _ _ _ _ _ _ z1];rfl
     have s1:w2.cell? ⟨w.heap.size+1,1,none⟩=some (.int .i64 0):=by rw[Zhg _ _ _ _ _ _ z1];rfl
     have s2:w2.cell? ⟨w.heap.size+1,2,none⟩=some (.int .i64 0):=by rw[Zhg _ _ _ _ _ _ z1];rfl
     have s3:w2.cell? ⟨w.heap.size+1,3,none⟩=some (.bool true):=by rw[Zhg _ _ _ _ _ _ z1];rfl
     have s4:w2.cell? ⟨w.heap.size+1,4,none⟩=some (.int .u64 (adr x).1):=by rw[Zhg _ _ _ _ _ _ z1];rfl
     have t0:w2.cell? ⟨w.heap.size,0,none⟩=some (.int .i64 0):=by rw[Zhg _ _ _ _ _ _ z0];rfl
     have t1:w2.cell? ⟨w.heap.size,1,none⟩=some (.int .i64 0):=by rw[Zhg _ _ _ _ _ _ z0];rfl
     have t2:w2.cell? ⟨w.heap.size,2,none⟩=some (.int .i64 0):=by rw[Zhg _ _ _ _ _ _ z0];rfl
     have t3:w2.cell? ⟨w.heap.size,3,none⟩=some (.bool false):=by rw[Zhg _ _ _ _ _ _ z0];rfl
     have t4:w2.cell? ⟨w.heap.size,4,none⟩=some (.int .u64 0):=by rw[Zhg _ _ _ _ _ _ z0];rfl
     have u1:=X1 (o:=1) z1;have u2:=X1 (o:=2) z1;have v0:=X1 (o:=0) z0;have v1:=X1 (o:=1) z0;have v2:=X1 (o:=2) z0;have v3:=X1 (o:=3) z0;have v4:=X1 (o:=4) z0;clear hb2 ho2 z0 z1))
 case refine_1=>exact(HB.out.setCell (p:=⟨w.heap.size+1,3,none⟩) (by simp) _).setCell (p:=⟨w.heap.size+1,4,none⟩) (by simp) _
 next=>
  have h2:=(HB.out.setCell (p:=⟨w.heap.size+1,3,none⟩) (by simp) (.bool true)).setCell (p:=⟨w.heap.size+1,4,none⟩) (by simp) (.int .u64 (adr x).1);have hg2:w.grownBy w2 (some bt):=⟨HB2.out.os.trans h2.os,HB2.out.tape.trans h2.tape,HB2.out.output.trans h2.output,Zhr h2.size HB2.out.size,λk hk hne=>(HB2.out.block k (Zh6 hk h2.size) hne).trans (h2.block k hk)⟩;have k1:bt≠w.heap.size+1:=by omega
  have k2:bt≠w.heap.size:=by omega
  clear h2;refine ZiV (v:=obA ⟨a,s,p,true,(adr x).1⟩) ?_ rfl ⟨rfl,?_,?_⟩
  ·simp[results,Try.results133,go_sem,obA,t0,t1,t2,t3,t4]
  ·grind [Z5g]
  ·rw[ZhD _ _ _ _ k2,ZhD _ _ _ _ k2,ZhD _ _ _ _ k2,ZhD _ _ _ _ k2,ZhD _ _ _ _ k2,ZhD _ _ _ _ k1,ZhD _ _ _ _ k1];exact HO2.out
end Vm
namespace Vm
open Go Go.Proofs Go.RowKit Go.Shelf
def rowB(W:World)(bl:Nat):Option Nat:=(W.cell? ⟨bl,0,none⟩).bind Value.ownBlock
structure KpW (bl base:Nat) (A B:World):Prop where
 size:A.heap.size<=B.heap.size
 same:∀k o,A.heap[k]?=some o->o.isCells=true->k≠bl->(k<base\/rowB A bl≠some k)->B.heap[k]?=some o
 row:∀k,k<A.heap.size->rowB B bl=some k->rowB A bl=some k
theorem KpW.trans{bl base:Nat}{A B C:World}(h:KpW bl base A B)(k:KpW bl base B C):KpW bl base A C:=
 ⟨Zhr h.size k.size,λi o hi hc hn hr=>k.same i o (h.same i o hi hc hn hr) hc hn (hr.imp id λhne e=>hne (h.row i (ZI hi) e)),λi hi hr=>h.row i hi (k.row i (Zh6 hi h.size) hr)⟩
theorem KpW.put{bl base:Nat}{W:World}{l:Nat}{o:Obj}(o':Obj)(hl:W.heap[l]?=some o)(ho:o.isCells=false)(hne:bl≠l):KpW bl base W (W.putObj l o'):=by
 have hcell:(W.putObj l o').cell? ⟨bl,0,none⟩=W.cell? ⟨bl,0,none⟩:=ZhV (Zi3 (by omega));refine⟨(Zk5 W l o').size,λk o2 hk hk2 _ _=> ?_,λk _ hr=> ?_⟩
 ·grind [World.putObj_heap_other,trans]
 simp_all[rowB]
def Z7p(ws:List Int)(g o cap:Nat)(gv:Value)(shs:List (Int×Int))(old:Bool)(bt:Option Nat)(K:Nat->World->Prop):Prop:=
 ∀(W:World) (a t:Nat) (x:Int),Words W ws g o cap->g<W.heap.size->K t W->ws[a]?=some x->
  Calls Sol.prog 133 #[.slice (some ⟨g,o,none⟩) ws.length cap,.int .i64 a,gv] W λe W'=>W.grownBy W' bt/\match objR shs old a t x with
   |some (ob,t')=>e=.returned (obA ob)/\K t' W'
   |none=>e=.panicked (XK 3)
def endS(ws:List Int)(shs:List (Int×Int))(old:Bool)(K:Nat->World->Prop)(xs:List Ob)(W:World):Prop:=
 ∃t,K t W/\Zy ws shs old=(if t<shs.length then([],3)else(xs,0))
def endP(ws:List Int)(shs:List (Int×Int))(old:Bool)(chain:List PanicEntry)(pre:List Ob)(W:World):Prop:=
 ∃e,(e=2\/e=3)/\chain=XK e/\Zy ws shs old=([],e)
structure Stat6 (ws:List Int) (g o cap:Nat) (sv:Value) (bw bg base bl:Nat) (bt:Option Nat) (gv:Value) (W:World):Prop where
 words:Words W ws g o cap
 sv_:sv=.slice (some ⟨g,o,none⟩) ws.length cap\/(ws=[]/\∃a c,sv=.slice a 0 c)
 hbw:W.heap[bw]?=some (.cells #[sv] 35 (0,0))
 hbg:W.heap[bg]?=some (.cells #[gv] 190 (0,0))
 gb:ws≠[]->∃ob,W.heap[g]?=some ob/\ob.isCells=true
 lt:g<base/\bw<base/\bg<base/\base<=W.heap.size
 ne:g≠bl/\bw≠bl/\bg≠bl
 nt:some g≠bt/\some bw≠bt/\some bg≠bt
section
variable {ws:List Int}{g o cap bw bg base bl:Nat}{bt:Option Nat}{sv gv:Value}{W W':World}
theorem Stat6.of(h:Stat6 ws g o cap sv bw bg base bl bt gv W)(hs:W.heap.size<=W'.heap.size)(hb:∀k ob,W.heap[k]?=some ob->ob.isCells=true->k<base->k≠bl->some k≠bt->W'.heap[k]?=some ob):Stat6 ws g o cap sv bw bg base bl bt gv W':=by
 refine⟨⟨λi x hx=> ?_,h.words.le,h.words.cap,h.words.len,h.words.u64⟩,h.sv_,hb _ _ h.hbw rfl h.lt.2.1 h.ne.2.1 h.nt.2.1,hb _ _ h.hbg rfl h.lt.2.2.1 h.ne.2.2 h.nt.2.2,λhn=> ?_,⟨h.lt.1,h.lt.2.1,h.lt.2.2.1,Zhr h.lt.2.2.2 hs⟩,h.ne,h.nt⟩
 ·have hn:ws≠[]:=λe=>by simp_all
  obtain⟨ob,ho,hc⟩:=h.gb hn;have h2:=hb _ _ ho hc h.lt.1 h.ne.1 h.nt.1;rw[<-h.words.at_ i x hx]
  grind [World.cell?_of_block]
 ·obtain⟨ob,ho,hc⟩:=h.gb hn;exact⟨ob,hb _ _ ho hc h.lt.1 h.ne.1 h.nt.1,hc⟩
theorem Stat6.grown(h:Stat6 ws g o cap sv bw bg base bl bt gv W)(hg:W.grownBy W' bt):Stat6 ws g o cap sv bw bg base bl bt gv W':=
 h.of hg.size λk ob hk _ _ _ hn=>(hg.block k (ZI hk) hn).trans hk
theorem Stat6.kp(h:Stat6 ws g o cap sv bw bg base bl bt gv W)(hk:KpW bl base W W'):Stat6 ws g o cap sv bw bg base bl bt gv W':=
 h.of hk.size λk ob hk1 hc hlt hne _=>hk.same k ob hk1 hc hne (.inl hlt)
end
theorem Vn{W W':World}(hb:Below W.heap.size W W')(r:Option Nat):W.grownBy W' r:=⟨hb.os,hb.tape,hb.output,hb.size,λk hk _=>hb.block k hk⟩
theorem Z9W{ws:List Int}{g o cap:Nat}:Z7p ws g o cap .nilFunc [] false none (λt _=>t=0):=by
 intro W a t x hw hg hK hx;refine(Z4K W ws g o cap hw hg a x hx).mono ?_;rintro e W' ⟨rfl,hb⟩;refine⟨Vn hb none,?_⟩;unfold objR begE
 grind
theorem Shps.grown{W W':World}{shs:List (Int×Int)}{bs:Nat}{v:Value}{r:Option Nat}(h:Shps W shs bs v)(hg:W.grownBy W' r)(hbs:some bs≠r)(hgb:shs≠[]->∀g o cap,v=.slice (some ⟨g,o,none⟩) shs.length cap->some g≠r):Shps W' shs bs v:=by
 refine⟨(hg.block _ (ZI h.box) hbs).trans h.box,?_⟩;rcases h.val with ⟨g,o,cap,rfl,h1,h2,h3,h4⟩|⟨a,cap,rfl,rfl⟩
 ·refine .inl ⟨g,o,cap,rfl,h1,h2,Zh6 h3 hg.size,λi x hx=> ?_⟩;have hb:=hg.block g h3 (hgb (λe=>by simp_all) _ _ _ rfl)
  grind [World.cell?_of_block,trans]
 simp
def KOld(shs:List (Int×Int))(bt bs:Nat)(v:Value)(t:Nat)(W:World):Prop:=W.heap[bt]?=some (.cells #[.int .i64 t] 3 (0,0))/\Shps W shs bs v/\t<=shs.length
theorem Z9X{ws:List Int}{g o cap:Nat}{shs:List (Int×Int)}{bt bs:Nat}{v:Value}(hl:shs.length<=1000000)(hbs:bs≠bt)(hgb:shs≠[]->∀g o cap,v=.slice (some ⟨g,o,none⟩) shs.length cap->g≠bt):
  Z7p ws g o cap (.func (.func 129) #[] #[.pointer (some ⟨bt,0,none⟩),.pointer (some ⟨bs,0,none⟩)]) shs true (some bt) (KOld shs bt bs v):=by
 intro W a t x hw hg hK hx;obtain⟨hb,hs,ht⟩:=hK;have hbs':some bs≠some bt:=λe=>hbs (by grind);have hgb':shs≠[]->∀g o cap,v=.slice (some ⟨g,o,none⟩) shs.length cap->some g≠some bt:=λhn g o cap e e2=>hgb hn g o cap e (by grind);have hsB:∀W',Below W.heap.size W W'->Shps W' shs bs v:=λW' hB=>hs.grown (Vn hB none) (by simp) (λ_ _ _ _ _=>by simp);have hbB:∀W',Below W.heap.size W W'->W'.heap[bt]?=some (.cells #[.int .i64 t] 3 (0,0)):=λW' hB=>(hB.block _ (ZI hb)).trans hb;by_cases ha:(adr x).2=0
 ·unfold objR;rw[if_pos ⟨rfl,ha⟩];cases hxs:shs[t]? with
  |none=>
   have:t=shs.length:=by have:=Zju.1 hxs;omega
   subst this;refine(US W _ ws g o cap hw hg a x hx ha λW' hB=>Z7P W' shs bt bs v hl (hsB W' hB) (hbB W' hB)).mono ?_;rintro e W' ⟨rfl,hB⟩;exact⟨Vn hB _,rfl⟩
  |some s=>
   simp only;cases hok:Zs s.1 s.2
   ·refine(US W _ ws g o cap hw hg a x hx ha λW' hB=>Z7O W' shs bt bs t v s hl (hsB W' hB) (hbB W' hB) hxs hok).mono ?_;rintro e W' ⟨rfl,hB⟩;exact⟨Vn hB _,by simp⟩
   ·refine(LU W _ ws g o cap hw hg a x hx ha bt _ s.1 s.2 (ZI hb) λW' hB=>Za9 W' shs bt bs t v s hl (hsB W' hB) (hbB W' hB) hxs hok hbs (hgb (λe=>by simp_all))).mono ?_;rintro e W' ⟨rfl,hG,hO⟩;have hlt:=(ZgX.1 hxs).1;refine⟨hG,?_⟩;simp only[ZhC];exact⟨trivial,hO,hs.grown hG hbs' hgb',by omega⟩
 ·refine(LV W _ _ ws g o cap hw hg a x hx ha).mono ?_;rintro e W' ⟨rfl,hB⟩;refine⟨Vn hB _,?_⟩;unfold objR begE;rw[if_neg (λhc=>ha hc.2)];by_cases hu:(unpk x).2.2=0
  ·simp only[hu,ZhC];exact⟨trivial,hbB W' hB,hsB W' hB,ht⟩
  simp_all
end Vm
end
section
namespace Vm
open Go Go.Proofs Go.RowKit Go.Shelf
def Zbz(bl:Nat)(W:World):Prop:=∀k,rowB W bl=some k->k<W.heap.size
def Jh{A B C:World}{r:Option Nat}(h:A.grownBy B r)(k:B.grownBy C r):A.grownBy C r:=
 ⟨k.os.trans h.os,k.tape.trans h.tape,k.output.trans h.output,Zhr h.size k.size,λi hi hn=>(k.block i (Zh6 hi h.size) hn).trans (h.block i hi hn)⟩
def Z4q(ws:List Int)(shs:List (Int×Int))(old:Bool){a t t':Nat}{x:Int}{ob:Ob}(hx:ws[a]?=some x)(ho:objR shs old a t x=some (ob,t')){f:Nat}{pre:List Ob}:
  Xl ws shs old (f+1) a t pre=if(ws.length:Int)<a+1+ob.size then([],2)else if Y2 ((ws.drop (a+1)).take ob.size.toNat) ob.gone ob.ptrs 0=false then([],3)else Xl ws shs old f (a+1+ob.size.toNat) t' (pre++[ob]):=by
 simp_all[Xl]
def Z4Y(n:Nat){w:World}{ws:List Int}{g o cap bw bg base bl:Nat}{bt:Option Nat}{sv gv:Value}{shs:List (Int×Int)}{old:Bool}{K:Nat->World->Prop}(hst:Stat6 ws g o cap sv bw bg base bl bt gv w)
  (hbl:bl<base) (hltb:some bl≠bt) (hbeg:Z7p ws g o cap gv shs old bt K) (hK0:K 0 w) (hKB:∀t W W',K t W->Below W.heap.size W W'->K t W') (hKK:∀t W W',K t W->KpW bl base W W'->K t W'):
  SeqP Fence.wide n Sol.prog 132 #[.pointer (some ⟨bw,0,none⟩),.pointer (some ⟨bg,0,none⟩)] (λob:Ob=> #[obA ob]) (KpW bl base) (endS ws shs old K) (endP ws shs old) ws.length bt (Zbz bl) w:=by
 intro l J W hW hJx hJ hY h0;refine callsIn_of_wp Sol.func132 rfl trivial ?_ rfl;simp only[Try.ntmps132,Ziq,Zi0,ZiM,Nat.reduceAdd,Nat.reduceSub,Zjs,Zjt,ZjP,Zjz,Zi4,Zi7];have HS0:=Zhu (hst.grown (Vn hW bt));have HK0:=Zhu (hKB 0 w W hK0 hW);have HJ0:=Zhu h0;clear h0
 gi_wp2
 gi_loopw [4] (λp wr=>∃(a t f:Nat) (pre:List Ob),p=.int .i64 a/\Hid (J pre wr/\K t wr/\Stat6 ws g o cap sv bw bg base bl bt gv wr/\ws.length<f+a/\0<f/\a<=ws.length/\pre.length<=a/\Zy ws shs old=Xl ws shs old f a t pre))
  (λp _=>ws.length- (intOf p).toNat)
 case atStart=>exact⟨0,0,ws.length+1,[],rfl,Zhu ⟨HJ0.out,HK0.out,HS0.out,by omega,by omega,by omega,by simp,rfl⟩⟩
 case round=>
  obtain⟨a,t,f,pre,rfl,HI⟩:=hrel;have hst':=HI.out.2.2.1;have hsv:=hst'.sv_;have c1:wr.cell? ⟨bw,0,none⟩=some sv:=by rw[Zhg _ _ _ _ _ _ hst'.hbw];rfl
  have c2:wr.cell? ⟨bg,0,none⟩=some gv:=by rw[Zhg _ _ _ _ _ _ hst'.hbg];rfl
  have hlen:=hst'.words.len;clear hst';by_cases hlt:a<ws.length
  ·obtain⟨x,hx⟩:∃x,ws[a]?=some x:=⟨_,ZgV hlt⟩;obtain rfl:sv=.slice (some ⟨g,o,none⟩) ws.length cap:=hsv.resolve_right (λh=>by simp_all);clear hsv;have hlt':((a:Int)<ws.length)=True:=eq_true (by omega);have hb:=hbeg wr a t x HI.out.2.2.1.words (by have:=HI.out.2.2.1.lt;omega) HI.out.2.1 hx;cases ho:objR shs old a t x with
   |none=>
    rw[ho]at hb;have HX:=Zhu hb;clear hb
    gi_wp2
    refine⟨trivial,λh=>(by cases h),(Zkf.2 HX.out).mono ?_⟩;rintro e w1 ⟨hg1,rfl⟩;have HG1:=Zhu hg1;clear hg1
    gi_wp2
    refine⟨rfl,.inr ⟨_,pre,rfl,⟨3,.inr rfl,rfl,?_⟩,hJ _ _ _ _ HI.out.1 HG1.out (λr e=>e.symm)⟩⟩;obtain⟨_,_,_,hf,hf0,_,_,hR⟩:=HI.out;cases f with
    |zero=>omega
    |succ f=>
     simp_all[Xl]
   |some q=>
    obtain⟨ob,t'⟩:=q;rw[ho]at hb;have HX:=Zhu hb;clear hb;obtain⟨hsh,hat⟩:=Uy ho
    gi_wp2
    refine⟨trivial,λh=>(by cases h),(Zkf.2 HX.out).mono ?_⟩;rintro e w1 ⟨hg1,rfl,hk1⟩;have HG1:=Zhu hg1;have HK1:=Zhu hk1;have hS1:=HI.out.2.2.1.grown hg1;have HS1:=Zhu hS1
    have e1:∀O,(w1.alloc O).cell? ⟨bw,0,none⟩=some (.slice (some ⟨g,o,none⟩) ws.length cap):=λO=>by
     rw[ZiE _ _ _ (ZI hS1.hbw),Zhg _ _ _ _ _ _ hS1.hbw];rfl
    have hgO:wr.grownBy (w1.alloc (.cells #[.int .i64 a,.int .i64 ob.size,.int .i64 ob.ptrs,.bool ob.gone,.int .u64 ob.target] 59)) bt:=Jh hg1 (Zii _ _ _);have hSO:=Zhu (HI.out.2.2.1.grown hgO);have hh:=Z5i (w1.alloc (.cells #[.int .i64 a,.int .i64 ob.size,.int .i64 ob.ptrs,.bool ob.gone,.int .u64 ob.target] 59)) ws g o cap hSO.out.words (by have:=hSO.out.lt;omega) ob a hat hlt hsh;unfold obA at hh;rw[hat]at hh;have HGO:=Zhu hgO;have HHold:=Zhu hh;have hstep:∀f pre,Xl ws shs old (f+1) a t pre=_:=λf pre=>Z4q ws shs old hx ho (f:=f) (pre:=pre);have HST:=Zhu hstep;clear hg1 hk1 hS1 hgO hh hstep hx;unfold obA
    gi_wp2
    refine⟨trivial,λh=>(by cases h),(Zkf.2 HHold.out).mono ?_⟩;rintro e w2 ⟨rfl,hb2⟩;have hG2:wr.grownBy w2 bt:=Jh HGO.out (Vn hb2 bt);have HG2:=Zhu hG2;have HB2:=Zhu hb2;unfold Z7R;by_cases h1:(ws.length:Int)<ob.at_+1+ob.size
    ·rw[if_pos h1];rw[hat]at h1;clear hb2 hG2
     gi_wp2
     refine⟨rfl,.inr ⟨_,pre,rfl,⟨2,.inl rfl,rfl,?_⟩,hJ _ _ _ _ HI.out.1 HG2.out (λr e=>e.symm)⟩⟩;obtain⟨_,_,_,hf,hf0,_,_,hR⟩:=HI.out;obtain⟨f,rfl⟩:∃f',f=f'+1:=⟨f-1,by omega⟩;rw[hR,HST.out,if_pos h1]
    ·rw[if_neg h1];by_cases h2:Y2 ((ws.drop (ob.at_.toNat+1)).take ob.size.toNat) ob.gone ob.ptrs 0=false
     ·rw[if_pos h2];rw[hat]at h1 h2;clear hb2 hG2
      gi_wp2
      refine⟨rfl,.inr ⟨_,pre,rfl,⟨3,.inr rfl,rfl,?_⟩,hJ _ _ _ _ HI.out.1 HG2.out (λr e=>e.symm)⟩⟩;obtain⟨_,_,_,hf,hf0,_,_,hR⟩:=HI.out;obtain⟨f,rfl⟩:∃f',f=f'+1:=⟨f-1,by omega⟩;rw[hR,HST.out,if_neg (by omega)];simp_all
     ·rw[if_neg h2];rw[hat]at h1 h2;simp only[Zhk]at h2;have HH2:=Zhu (And.intro h1 h2);have hJ2:=hJ _ _ _ _ HI.out.1 hG2 (λr e=>e.symm);have HJ2:=Zhu hJ2;have HS2:=Zhu (HI.out.2.2.1.grown hG2);have hbx:w2.heap[w1.heap.size]?=some (.cells #[.int .i64 a,.int .i64 ob.size,.int .i64 ob.ptrs,.bool ob.gone,.int .u64 ob.target] 59 (0,0)):=(hb2.block _ (by simp)).trans (ZhH w1 _);have HBX:=Zhu hbx;obtain⟨fn,tmps,assign,body,hy,hR⟩:=hY pre ob w2 hJ2 (by have:=HI.out.2.2.2.2.2.2.1;omega);unfold obA at hy;rw[hat]at hy;have d0:w2.cell? ⟨w1.heap.size,0,none⟩=some (.int .i64 a):=by rw[Zhg _ _ _ _ _ _ hbx];rfl
      have d1:w2.cell? ⟨w1.heap.size,1,none⟩=some (.int .i64 ob.size):=by rw[Zhg _ _ _ _ _ _ hbx];rfl
      have d2:w2.cell? ⟨w1.heap.size,2,none⟩=some (.int .i64 ob.ptrs):=by rw[Zhg _ _ _ _ _ _ hbx];rfl
      have d3:w2.cell? ⟨w1.heap.size,3,none⟩=some (.bool ob.gone):=by rw[Zhg _ _ _ _ _ _ hbx];rfl
      have d4:w2.cell? ⟨w1.heap.size,4,none⟩=some (.int .u64 ob.target):=by rw[Zhg _ _ _ _ _ _ hbx];rfl
      clear hb2 hG2 hJ2 hbx
      gi_wp2
      refine⟨λh=>(by cases h),hR.mono ?_⟩;rintro e W3 ⟨rfl,hJ3,hk3⟩;have HJ3:=Zhu hJ3;have HK3:=Zhu hk3
      have hrow2:rowB w2 bl≠some w1.heap.size:=by
       intro e;have hlb:bl<wr.heap.size:=by have:=HI.out.2.2.1.lt.2.2.2;omega
       have:rowB w2 bl=rowB wr bl:=by
        unfold rowB;rw[ZhV (a:=⟨bl,0,none⟩) (HG2.out.block bl hlb hltb)]
       rw[this]at e;have:=hJx _ _ HI.out.1 _ e;have:=HG1.out.size;omega
      have hbx3:=hk3.same _ _ HBX.out rfl (by have:=HI.out.2.2.1.lt.2.2.2;have:=HG1.out.size;omega) (.inr hrow2);have f1:W3.cell? ⟨w1.heap.size,1,none⟩=some (.int .i64 ob.size):=by rw[Zhg _ _ _ _ _ _ hbx3];rfl
      have hS3:=HS2.out.kp hk3;have hK2:K t' w2:=hKB _ _ _ HK1.out (((ZhL _ _).alloc (Zh1 _) _).trans (HB2.out.mono (by simp)));have hK3:=hKK _ _ _ hK2 hk3;have HS3:=Zhu (And.intro hS3 hK3);obtain⟨m,hm⟩:∃m:Nat,ob.size=m:=⟨ob.size.toNat,by have:=(Zf.1 hsh).1;omega⟩;rw[hm]at f1;have hm5:(m:Int)<=255:=by have:=(Zf.1 hsh);omega
      have q1:IntKind.i64.wrap (1+(m:Int))=((1+m:Nat):Int):=by rw[Z7 _ (by omega) (by omega)];omega
      have q2:IntKind.i64.wrap ((a:Int)+((1+m:Nat):Int))=((a+(1+m):Nat):Int):=by rw[Z7 _ (by omega) (by omega)];omega
      clear hJ3 hk3 hbx3 hS3 hK2 hK3 hrow2;clear h2
      gi_wp2
      obtain⟨_,_,_,hf,hf0,hal,hpl,hR⟩:=HI.out;obtain⟨f,rfl⟩:∃f',f=f'+1:=⟨f-1,by omega⟩;rw[HST.out,if_neg (by omega),if_neg HH2.out.2]at hR;have hle:a+1+m<=ws.length:=by omega
      refine⟨⟨a+(1+m),t',f,pre++[ob],by simp,Zhu ⟨HJ3.out,HS3.out.2,HS3.out.1,by omega,by omega,by omega,by simp;omega,?_⟩⟩,by grind [intOf]⟩
      grind
  ·have hnlt:((a:Int)<ws.length)=False:=ZkV (by omega)
   have HE:Hid (endS ws shs old K pre wr):=Zhu (by
    obtain⟨_,hK,_,hf,hf0,_,_,hR⟩:=HI.out;refine⟨t,hK,?_⟩;cases f with
    |zero=>omega
    |succ f=>
     simp_all[Xl,ZhT])
   obtain⟨sa,sc,rfl⟩:∃sa sc,sv=.slice sa ws.length sc:=by
    grind
   clear hsv
   gi_wp2
   go_end0
   exact .inl ⟨_,pre,rfl,HE.out,HI.out.1⟩
end Vm
namespace Vm
open Go Go.Proofs Go.RowKit Go.Shelf
def Z4Z(w:World)(sv gv:Value)(hs:∃a n c,sv=.slice a n c)(hg:gv=.nilFunc\/∃f vs,gv=.func (.func f) #[] vs):
  Calls Sol.prog 131 #[sv,gv] w λe w'=>e=.returned (.func (.func 132) #[] #[.pointer (some ⟨w.heap.size,0,none⟩),.pointer (some ⟨w.heap.size+1,0,none⟩)])/\
   w'=(w.alloc (.cells #[sv] 35)).alloc (.cells #[gv] 190):=by
 have hmf:∀(fn:Go.Fn) (first cap:Array Value) (w:World),(Instr.makeFunc fn first cap).run Sol.prog w=.ok (.func fn first cap) w:=λ_ _ _ _=>rfl;obtain⟨a,n,c,rfl⟩:=hs;rcases hg with rfl|⟨f,vs,rfl⟩
 ·go_enter Sol.func131,Try.ntmps131;go_wp2;exact ZiV (results_tmp rfl _ _ _) rfl ⟨rfl,rfl⟩
 ·go_enter Sol.func131,Try.ntmps131;go_wp2;exact ZiV (results_tmp rfl _ _ _) rfl ⟨rfl,rfl⟩
def Zd5(w:World):Sem.run Sol.prog (binOp .neq 20 .nilIface .nilIface) w=.ok (.bool false) w:=by rfl
def Zd6(w:World)(T:TypeId)(v:Value):Sem.run Sol.prog (binOp .neq 20 (.iface T v) .nilIface) w=.ok (.bool true) w:=by rfl
def ZfX(w:World)(x:Int):Sem.run Sol.prog (Instr.typeAssert (.iface 189 (.agg #[.int .i64 x])) 20 189 true) w=.ok (.tuple #[.agg #[.int .i64 x],.bool true]) w:=by rfl
def Z3l(n:Nat)(p q:Addr)(w:World):
  CallsDIn Fence.wide n Sol.prog 130 #[.pointer (some p),.pointer (some q)] .returning w λe u' w'=>e=.returned (.tuple #[])/\u'=.returning/\w'=w:=by
 have h1:=Zd5;refine callsDIn_of_wpSIn Sol.func130 rfl trivial λc₀ cs hu=> ?_;simp only[Try.ntmps130,Ziq,Zi0,ZiM,Nat.reduceAdd,Nat.reduceSub,Zjs,Zjt,ZjP,Zjz,Zi4,Zi7];apply wpSIn_seq;apply wpSIn_region;simp[wpOpsSIn,go_sem,recoverD,hu,Exit.thenS];refine wpSIn_of_wpIn rfl ?_
 gi_wp2
 cases c₀;simp_all [bodyPostS,results,Try.results130]
def J2(n:Nat)(bp bq:Nat)(x:Int)(w:World)(vp vq:Value)(hp:Boxed w bp 55 vp)(hq:Boxed w bq 32 vq)(hne:bp≠bq):
  CallsDIn Fence.wide n Sol.prog 130 #[.pointer (some ⟨bp,0,none⟩),.pointer (some ⟨bq,0,none⟩)] (.panicking (XK x)) w λe u' w'=>
   e=.returned (.tuple #[])/\u'=.panicking [{v:=.iface 189 (.agg #[.int .i64 x]),recovered:=true}]/\
   Boxed w' bp 55 (.slice none 0 0)/\Boxed w' bq 32 (.int .i64 x)/\(w.heap.size<=w'.heap.size/\∀k,k<w.heap.size->k≠bp->k≠bq->w'.heap[k]?=w.heap[k]?)/\w'.os=w.os/\w'.tape=w.tape/\w'.output=w.output:=by
 have h1:=Zd6;have h2:=ZfX;have p1:=(hp.alloc (.cells #[.int .i64 x] 189)).cell;have p2:=(hp.alloc (.cells #[.int .i64 x] 189)).frozen;have q1:=(hq.alloc (.cells #[.int .i64 x] 189)).cell;have q2:=(hq.alloc (.cells #[.int .i64 x] 189)).frozen;have p3:=hp.cell;have p4:=hp.frozen;have q3:=hq.cell;have q4:=hq.frozen;have l1:=hp.lt;have l2:=hq.lt;have n1:¬bp=bq:=hne;have n2:¬bq=bp:=λe=>hne e.symm;have n3:¬bp=w.heap.size:=by omega
 have n4:¬w.heap.size=bp:=by omega
 have n5:¬bq=w.heap.size:=by omega
 have n6:¬w.heap.size=bq:=by omega
 have HP:=Zhu (And.intro hp hq);clear hp hq hne;refine callsDIn_of_wpSIn Sol.func130 rfl trivial λc₀ cs hu=> ?_;simp only[Try.ntmps130,Ziq,Zi0,ZiM,Nat.reduceAdd,Nat.reduceSub,Zjs,Zjt,ZjP,Zjz,Zi4,Zi7];apply wpSIn_seq;apply wpSIn_region;simp[wpOpsSIn,go_sem,recoverD,hu,XK,Exit.thenS];refine wpSIn_of_wpIn rfl ?_
 gi_wp2
 gi_region
 all_goals gi_wp2
 obtain⟨hp,hq⟩:=HP.out;have b1:Boxed ((w.setCell ⟨bp,0,none⟩ (.slice none 0 0)).setCell ⟨bq,0,none⟩ (.int .i64 x)) bp 55 (.slice none 0 0):=(ZhD _ ⟨bq,0,none⟩ _ bp n1).trans (hp.set _);have b2:Boxed ((w.setCell ⟨bp,0,none⟩ (.slice none 0 0)).setCell ⟨bq,0,none⟩ (.int .i64 x)) bq 32 (.int .i64 x):=Boxed.set _ (show Boxed (w.setCell ⟨bp,0,none⟩ (.slice none 0 0)) bq 32 vq from(ZhD _ ⟨bp,0,none⟩ _ bq n2).trans hq);refine⟨rfl,_,rfl,_,by simp[results,Try.results130],rfl,rfl,b1.alloc _,b2.alloc _,⟨?_,λk hk k1 k2=> ?_⟩,rfl,rfl,rfl⟩
 ·simp
 ·show(World.alloc _ _).heap[k]?=_
  grind [Below.heap_alloc,World.setCell,Below.heap_setCell]
end Vm
namespace Vm
open Go Go.Proofs Go.RowKit Go.Shelf
def obC(ob:Ob):List Value:=[.int .i64 ob.at_,.int .i64 ob.size,.int .i64 ob.ptrs,.bool ob.gone,.int .u64 ob.target]
def obsC(l:List Ob):List Value:=l.flatMap obC
def Z6d(l:List Ob)(x:Ob):obsC (l++[x])=obsC l++obC x:=by simp[obsC]
structure WIv (w:World) (bt:Option Nat) (pre:List Ob) (W:World):Prop where
 row:∃v,Boxed W w.heap.size 55 v/\W.ownsRow (w.heap.size+4) 59 5 v pre.length (obsC pre)
 e:Boxed W (w.heap.size+1) 32 (.int .i64 0)
 gr:w.grownBy W bt
 size:w.heap.size+4<=W.heap.size
def XB{w X Y:World}{bt row:Option Nat}(h:w.grownBy X bt)(k:X.grownBy Y row)(hr:∀r,row=some r->some r=bt\/w.heap.size<=r):w.grownBy Y bt:=
 ⟨k.os.trans h.os,k.tape.trans h.tape,k.output.trans h.output,Zhr h.size k.size,λi hi hn=>
  (k.block i (Zh6 hi h.size) (λe=>by grind)).trans (h.block i hi hn)⟩
theorem y5{W:World}{b:Nat}{t:TypeId}{v:Value}(h:Boxed W b t v):rowB W b=v.ownBlock:=by
 unfold rowB;rw[h.cell];rfl
def WIv.rowIn{w:World}{bt:Option Nat}{pre:List Ob}{W:World}(h:WIv w bt pre W):Zbz w.heap.size W:=by
 obtain⟨v,hv,hr⟩:=h.row;intro k hk;rw[y5 hv]at hk;exact(hr.lt k hk).2
def WIv.own{w:World}{bt:Option Nat}(hbt:∀r,bt=some r->r<w.heap.size):OwnP bt (w.heap.size+4) (WIv w bt):=by
 intro s X Y row h hg hr
 have hne:∀k,w.heap.size<=k->k<w.heap.size+4->some k≠row:=by
  intro k h1 h2 e;rcases hr k e.symm with e2|⟨e2,_⟩
  ·grind
  ·omega
 obtain⟨v,hv,hrow⟩:=h.row;refine⟨⟨v,hv.kept hg (hne _ (Zh1 _) (by omega)),hrow.kept hg ?_⟩,h.e.kept hg (hne _ (by omega) (by omega)),XB h.gr hg λr e=>(hr r e).imp id λh2=>by omega,Zhr h.size hg.size⟩;cases hb:v.ownBlock with
 |none=>simp
 |some b=>
  refine .inr λe=> ?_;have h1:=hrow.lt b hb;rcases hr b e.symm with e2|⟨_,o,ho,hc⟩
  ·grind
  ·rcases hrow.2 with ⟨rfl,_⟩|⟨g,cap,cur,rfl,_,hgb,_⟩
   ·simp[Value.ownBlock]at hb
   ·obtain rfl:g=b:=by grind [Value.ownBlock]
    rw[hgb]at ho;cases ho;cases hc
def WIv.appended{w W w1:World}{bt:Option Nat}{pre:List Ob}{x:Ob}{v v':Value}{tmp:Obj}(hbt:∀r,bt=some r->r<w.heap.size)(h:WIv w bt pre W)(hv:Boxed W w.heap.size 55 v)
  (hrow:W.ownsRow (w.heap.size+4) 59 5 v pre.length (obsC pre)) (hown':w1.ownsRow (w.heap.size+4) 59 5 v' (pre.length+1) (obsC pre++obC x))
  (hgrow:(W.alloc tmp).grownBy w1 v.ownBlock) (hat:v'.ownBlock=v.ownBlock\/v'.ownBlock=some (W.alloc tmp).heap.size):
  Boxed w1 w.heap.size 55 v/\KeepsFrom (w.heap.size+4) W (w1.setCell ⟨w.heap.size,0,none⟩ v')/\KpW w.heap.size (w.heap.size+4) W (w1.setCell ⟨w.heap.size,0,none⟩ v')/\WIv w bt (pre++[x]) (w1.setCell ⟨w.heap.size,0,none⟩ v'):=by
 have hsz:=h.size;obtain⟨hv1,hv2,hr2,hk2,hb2⟩:=hv.appended (by decide) (jb hrow (B':=w.heap.size) (by omega)) (by omega) (Zh1 _) (jb hown' (B':=w.heap.size) (by omega)) hgrow;have hlow:∀b,v.ownBlock=some b->w.heap.size+4<=b:=λb hb=>(hrow.lt b hb).1
 have hrow2:(w1.setCell ⟨w.heap.size,0,none⟩ v').ownsRow (w.heap.size+4) 59 5 v' (pre.length+1) (obsC pre++obC x):=hown'.kept (ZjV w1 w.heap.size v') (by
  cases hb:v'.ownBlock with
  |none=>simp
  |some b=>exact .inr λe=>by have h1:=(hown'.lt b hb).1;grind)
 refine⟨hv1,hk2.from _,⟨hk2.size,λk o hk hc hn hr=> ?_,λk hk e=> ?_⟩,⟨v',hv2,?_⟩,?_,?_,Zhr hsz hk2.size⟩
 ·rw[ZhD _ _ _ _ hn,hgrow.block k (by have:=ZI hk;simp;omega) (λe=> ?_),Zi2 _ _ _ (ZI hk),hk]
  grind [y5,trans]
 ·rw[y5 hv2]at e;rw[y5 hv];rcases hat with hat|hat
  ·simp_all
  ·rw[hat]at e;simp at e;omega
 ·simp_all[Zib,Z6d]
 ·have he1:Boxed w1 (w.heap.size+1) 32 (.int .i64 0):=(h.e.alloc tmp).kept hgrow (λe=>by grind);exact(ZhD _ _ _ _ (by simp)).trans he1
 ·refine XB (XB (XB h.gr (Zii W tmp none) (by simp)) hgrow λr e=>.inr ?_) (ZjV w1 w.heap.size v') λr e=>.inr ?_
  ·grind
  simp_all
def KpW.alloc{bl base:Nat}{W:World}(o:Obj)(hbl:bl<W.heap.size):KpW bl base W (W.alloc o):=by
 refine⟨by simp,λk o2 hk _ _ _=>(Zi2 _ _ _ (ZI hk)).trans hk,λk _ hr=> ?_⟩;simp_all[rowB,ZiE]
end Vm
namespace Vm
open Go Go.Proofs Go.RowKit Go.Shelf
attribute [local go_sem] Oper.semAt_some
def Zfm:(Sol.prog.info? 59).map (λi=>(i.zero,i.size,i.bytes))=some (some (.agg #[.int .i64 0,.int .i64 0,.int .i64 0,.bool false,.int .u64 0]),5,40):=by kernel_rfl
def unO:Sol.prog.underlying 55=some (.slice 59):=by kernel_rfl
def Z3m(w:World)(a b c d e:Value)(t:TypeId):∀j u,[a,b,c,d,e][j]?=some u->(w.alloc (.cells #[a,b,c,d,e] t)).cell? ((⟨w.heap.size,0,none⟩:Addr).add j)=some u:=by
 intro j u h;have:=Zhg _ _ j _ _ _ (ZhH w (.cells #[a,b,c,d,e] t))
 grind [add,Addr.add]
def Z4B(w:World)(ws:List Int)(shs:List (Int×Int))(old:Bool)(bt:Option Nat)(K:Nat->World->Prop)(e:Ending)(W:World):Prop:=
 ∃v n xs,e=.returned (.tuple #[v,.int .i64 n])/\w.grownBy W bt/\W.ownsRow (w.heap.size+4) 59 5 v xs.length (obsC xs)/\((n=0/\endS ws shs old K xs W)\/((n=2\/n=3)/\xs=[]/\Zy ws shs old=([],n)))
def jP{w:World}{ws:List Int}{g o cap:Nat}{bt:Option Nat}{sv gv:Value}{shs:List (Int×Int)}{old:Bool}{K:Nat->World->Prop}(hw:Words w ws g o cap)
  (hsv:sv=.slice (some ⟨g,o,none⟩) ws.length cap\/(ws=[]/\∃a c,sv=.slice a 0 c)) (hg:(ws≠[]->g<w.heap.size)/\g<w.heap.size+4/\g≠w.heap.size) (hgv:gv=.nilFunc\/∃f vs,gv=.func (.func f) #[] vs)
  (hbt:∀r,bt=some r->r<w.heap.size) (hgt:some g≠bt) (hbeg:Z7p ws g o cap gv shs old bt K) (hK0:K 0 w)
  (hKG:∀t A B row,K t A->A.grownBy B row->(∀r,row=some r->w.heap.size<=r)->K t B)
  (hKK:∀bl base t A B,w.heap.size<=bl->w.heap.size<=base->K t A->KpW bl base A B->K t B):
  Calls Sol.prog 128 #[sv,gv] w (Z4B w ws shs old bt K):=by
 refine(Zkf (n:=5)).1 ?_;have hmf:∀(fn:Go.Fn) (first cap:Array Value) (w:World),(Instr.makeFunc fn first cap).run Sol.prog w=.ok (.func fn first cap) w:=λ_ _ _ _=>rfl
 have hsf:∃a n c,sv=.slice a n c:=by
  rcases hsv with rfl|⟨_,a,c,rfl⟩
  ·simp
  ·simp
 refine callsIn_of_wp_marks Sol.func128 rfl trivial ?_ rfl;simp only[Try.ntmps128,Ziq,Zi0,ZiM,Nat.reduceAdd,Nat.reduceSub,Zjs,Zjt,ZjP,Zjz,Zi4,Zi7];have he:=λW=>Z4Z W sv gv hsf hgv
 gi_wp2
 refine⟨trivial,(Zkf.2 (he _)).mono ?_⟩;rintro e w1 ⟨rfl,rfl⟩
 gi_wp2
 have hnx:∀b:Nat,b<w.heap.size->((((w.alloc (Obj.cells #[.slice none 0 0] 55)).alloc (.cells #[.int .i64 0] 32)).alloc (.cells #[sv] 35)).alloc (.cells #[gv] 190)).heap[b]?=w.heap[b]? :=λb hb=>by
  grind [Below.heap_alloc]
 have b0:Boxed ((((w.alloc (Obj.cells #[.slice none 0 0] 55)).alloc (.cells #[.int .i64 0] 32)).alloc (.cells #[sv] 35)).alloc (.cells #[gv] 190)) w.heap.size 55 (.slice none 0 0):=(((Boxed.new w _ _).alloc _).alloc _).alloc _
 have b1:Boxed ((((w.alloc (Obj.cells #[.slice none 0 0] 55)).alloc (.cells #[.int .i64 0] 32)).alloc (.cells #[sv] 35)).alloc (.cells #[gv] 190)) (w.heap.size+1) 32 (.int .i64 0):=by
  have:=((Boxed.new (w.alloc (Obj.cells #[.slice none 0 0] 55)) 32 (.int .i64 0)).alloc (.cells #[sv] 35)).alloc (.cells #[gv] 190);rwa[World.size_alloc]at this
 have b2:Boxed ((((w.alloc (Obj.cells #[.slice none 0 0] 55)).alloc (.cells #[.int .i64 0] 32)).alloc (.cells #[sv] 35)).alloc (.cells #[gv] 190)) (w.heap.size+2) 35 sv:=by
  have:=(Boxed.new ((w.alloc (Obj.cells #[.slice none 0 0] 55)).alloc (.cells #[.int .i64 0] 32)) 35 sv).alloc (.cells #[gv] 190);simp_all
 have b3:Boxed ((((w.alloc (Obj.cells #[.slice none 0 0] 55)).alloc (.cells #[.int .i64 0] 32)).alloc (.cells #[sv] 35)).alloc (.cells #[gv] 190)) (w.heap.size+3) 190 gv:=by
  have:=Boxed.new (((w.alloc (Obj.cells #[.slice none 0 0] 55)).alloc (.cells #[.int .i64 0] 32)).alloc (.cells #[sv] 35)) 190 gv;simp_all
 have hgr:w.grownBy ((((w.alloc (Obj.cells #[.slice none 0 0] 55)).alloc (.cells #[.int .i64 0] 32)).alloc (.cells #[sv] 35)).alloc (.cells #[gv] 190)) bt:=⟨rfl,rfl,rfl,by simp;omega,λk hk _=>hnx k hk⟩;have hsz:((((w.alloc (Obj.cells #[.slice none 0 0] 55)).alloc (.cells #[.int .i64 0] 32)).alloc (.cells #[sv] 35)).alloc (.cells #[gv] 190)).heap.size=w.heap.size+4:=by simp
 generalize hW0:(((w.alloc (Obj.cells #[.slice none 0 0] 55)).alloc (.cells #[.int .i64 0] 32)).alloc (.cells #[sv] 35)).alloc (.cells #[gv] 190)=W0 at*
 have hst:Stat6 ws g o cap sv (w.heap.size+2) (w.heap.size+3) (w.heap.size+4) w.heap.size bt gv W0:=by
  refine⟨⟨λi x hx=> ?_,hw.le,hw.cap,hw.len,hw.u64⟩,hsv,b2,b3,λhn=> ?_,⟨by omega,by omega,by omega,by omega⟩,⟨by omega,by omega,by omega⟩,hgt,?_,?_⟩
  ·rw[<-hw.at_ i x hx]
   grind [World.cell?_of_block]
  ·obtain⟨x,hx⟩:∃x,ws[0]?=some x:=by cases ws with|nil=>simp_all|cons x l=>simp
   have:=hw.at_ 0 x hx;rw[hnx g (hg.1 hn)];unfold World.cell? at this;cases hh:w.heap[g]? with
   |none=>simp_all
   |some ob=>
    refine⟨ob,rfl,?_⟩
    grind [Obj.isCells]
  ·grind
  ·grind
 have hK0':K 0 W0:=hKG 0 w W0 none hK0 ⟨hgr.os,hgr.tape,hgr.output,hgr.size,λk hk _=>hnx k hk⟩ (by simp);have hseq:=Z4Y 4 hst (by omega) (λe=>by grind) hbeg hK0' (λt A B hA hB=>hKG t A B none hA ⟨hB.os,hB.tape,hB.output,hB.size,λk hk _=>hB.block k hk⟩ (by simp)) (λt A B hA hB=>hKK _ _ t A B (Zh1 _) (by omega) hA hB)
 refine Qd rfl (by omega) (gf:=132) (lb:=#[.pointer (some ⟨w.heap.size+2,0,none⟩),.pointer (some ⟨w.heap.size+3,0,none⟩)]) rfl trivial (enters_of Sol.func132 (by kernel_rfl) rfl)
  hseq (λr e=>by grind) KpW.trans (λW l o o' h1 h2 h3 _=>KpW.put o' h2 h3 (by omega)) (ZhL _ _) (λ_=>rfl)
  (WIv w bt) (hsz▸WIv.own hbt) (λpre W h=>h.rowIn) ⟨⟨_,b0,ZiJ _ _ _ _⟩,b1,hgr,by omega⟩ ?hS
  (λx a' W=>∃Bx,w.heap.size+4<=Bx/\W.heap[Bx]?=some (.cells #[.int .i64 x.at_,.int .i64 x.size,.int .i64 x.ptrs,.bool x.gone,.int .u64 x.target] 59 (0,0))/\
   a'= {tmps:=#[sv,gv,undef,undef,.pointer (some ⟨w.heap.size,0,none⟩),.pointer (some ⟨w.heap.size+1,0,none⟩),.pointer (some ⟨Bx,0,none⟩),
    .func (.func 130) #[] #[.pointer (some ⟨w.heap.size,0,none⟩),.pointer (some ⟨w.heap.size+1,0,none⟩)],sv,gv,.func (.func 132) #[] #[.pointer (some ⟨w.heap.size+2,0,none⟩),.pointer (some ⟨w.heap.size+3,0,none⟩)],obA x,undef,undef,undef,undef,undef],defers:=[]})
  ?hAx ?assign ?body ?done ?panic
 case hS=>
  rintro xs X Y row ⟨t,hK,hR⟩ hgr2 hrow;exact⟨t,hKG t X Y row hK hgr2 λr e=>(hrow r e).elim (λe2=>by cases e2) (λe2=>by omega),hR⟩
 case hAx=>
  rintro x a' s X Y row ⟨Bx,hB,hx,ha⟩ hgr2 hrow;refine⟨Bx,hB,(hgr2.block Bx (ZI hx) λe=> ?_).trans hx,ha⟩;rcases hrow Bx e.symm with e2|⟨_,o2,h2,h3⟩
  ·cases e2
  ·rw[hx]at h2;cases h2;cases h3
 case assign=>
  rintro l pre x W K2 hi hK2;simp only[List.zip_cons_cons,Array.zip,obA]
  gi_wp2
  exact hK2 _ _ ((KeepsOthers.alloc W _).from _) (KpW.alloc _ (by have:=hi.size;omega)) ((WIv.own hbt).alloc _ hi) ⟨W.heap.size,hi.size,ZhH W _,rfl⟩
 case body=>
  rintro l pre x a' W hi ⟨Bx,hBx,hx,rfl⟩ hlen;obtain⟨v,hv,hrow⟩:=hi.row;obtain⟨i0,hin,hz0,hz1,hz2⟩:=info_parts Zfm;obtain⟨va,vc,rfl⟩:=Z2r hrow;have c1:=hv.cell;have c2:=hv.frozen;have d0:W.cell? ⟨Bx,0,none⟩=some (.int .i64 x.at_):=by rw[Zhg _ _ _ _ _ _ hx];rfl
  have d1:W.cell? ⟨Bx,1,none⟩=some (.int .i64 x.size):=by rw[Zhg _ _ _ _ _ _ hx];rfl
  have d2:W.cell? ⟨Bx,2,none⟩=some (.int .i64 x.ptrs):=by rw[Zhg _ _ _ _ _ _ hx];rfl
  have d3:W.cell? ⟨Bx,3,none⟩=some (.bool x.gone):=by rw[Zhg _ _ _ _ _ _ hx];rfl
  have d4:W.cell? ⟨Bx,4,none⟩=some (.int .u64 x.target):=by rw[Zhg _ _ _ _ _ _ hx];rfl
  have hpl:pre.length<=1000000:=Zhr (Nat.le_of_lt hlen) hw.len;have hszW:=hi.size;have HA:=λtmp w1 v'=>WIv.appended (W:=W) (w1:=w1) (x:=x) (v':=v') (tmp:=tmp) hbt hi hv hrow
  gi_wp2_with (gi_at_builtin;refine wpListIn_append_own_at _ rfl _ _ 55 rfl (w.heap.size+4) 59 i0 _ 5 40 unO hin hz0 hz1 hz2 rfl (by decide) _ _ _ rfl (hrow.alloc _) ⟨W.heap.size,0,none⟩ 1 1 (obC x) rfl rfl (Z3m _ _ _ _ _ _ _) (by simp[obC,Value.oneCell']) (by grind [maxLen]) (by omega) (by simp;omega) ?_;intro v' w1 hown' hgrow _ hat;obtain⟨g',cap',rfl⟩:=ownsRow_succ hown';obtain⟨e1,e2,e3,e4⟩:=HA _ _ _ hown' hgrow hat;have e5:=e1.cell;have e6:=e1.frozen)
  rw[hsz];exact⟨e2,e3,e4⟩
 case done=>
  rintro D xs W hD hS hi hD2;obtain⟨v,hv,hrow⟩:=hi.row;obtain⟨va,vc,rfl⟩:=Z2r hrow;have c1:=hv.cell;have c2:=hv.frozen;have c3:=hi.e.cell;have c4:=hi.e.frozen;rw[hsz]at hD
  gi_wp2
  have hDX:((W.setCell ⟨w.heap.size,0,none⟩ (.slice va xs.length vc)).setCell ⟨w.heap.size+1,0,none⟩ (.int .i64 0)).heap[D]?=some (.deferred (some [])):=by
   rw[ZhD _ _ _ _ (by grind),ZhD _ _ _ _ (by grind)];exact hD2
  have f0:Boxed ((W.setCell ⟨w.heap.size,0,none⟩ (.slice va xs.length vc)).setCell ⟨w.heap.size+1,0,none⟩ (.int .i64 0)) w.heap.size 55 (.slice va xs.length vc):=
   (ZhD _ _ _ _ (by simp)).trans (hv.set _)
  have f1:Boxed ((W.setCell ⟨w.heap.size,0,none⟩ (.slice va xs.length vc)).setCell ⟨w.heap.size+1,0,none⟩ (.int .i64 0)) (w.heap.size+1) 32 (.int .i64 0):=
   Boxed.set _ (show Boxed (W.setCell ⟨w.heap.size,0,none⟩ (.slice va xs.length vc)) (w.heap.size+1) 32 (.int .i64 0)from(ZhD _ _ _ _ (by simp)).trans hi.e)
  have g1:=ZjV W w.heap.size (.slice va xs.length vc);have g2:=ZjV (W.setCell ⟨w.heap.size,0,none⟩ (.slice va xs.length vc)) (w.heap.size+1) (.int .i64 0);have hlow:=hrow.lt
  have r2:=(hrow.kept g1 (by
   cases hb:(Value.slice va xs.length vc).ownBlock with
   |none=>simp
   |some b=>exact .inr λe=>by have:=(hlow b hb).1;grind)).kept g2 (by
   cases hb:(Value.slice va xs.length vc).ownBlock with
   |none=>simp
   |some b=>exact .inr λe=>by have:=(hlow b hb).1;grind)
  generalize hW2:(W.setCell ⟨w.heap.size,0,none⟩ (.slice va xs.length vc)).setCell ⟨w.heap.size+1,0,none⟩ (.int .i64 0)=W2 at*;have g3:=Zk5 W2 D (.deferred none);have f0':Boxed (W2.putObj D (.deferred none)) w.heap.size 55 (.slice va xs.length vc):=(Zi3 (by omega)).trans f0;have f1':Boxed (W2.putObj D (.deferred none)) (w.heap.size+1) 32 (.int .i64 0):=(Zi3 (by omega)).trans f1;have k0:=f0'.cell;have k1:=f1'.cell;refine⟨by simp,.inl ⟨D,_,rfl,run_takeDeferred hDX,?_⟩⟩;refine⟨by simp,.inr ⟨λh=>(by cases h),.func 130,_,130, #[.pointer (some ⟨w.heap.size,0,none⟩),.pointer (some ⟨w.heap.size+1,0,none⟩)],rfl,by rfl,λ_ _=>trivial,?_⟩⟩;refine(Z3l _ _ _ _).mono ?_;rintro e u' w'' ⟨rfl,rfl,rfl⟩;refine⟨.tuple #[.slice va xs.length vc,.int .i64 0],by simp[results,Try.results128,go_sem,k0,k1],?_⟩;obtain⟨t,hK,hR⟩:=hS;refine⟨_,0,xs,rfl,XB (XB (XB hi.gr g1 λr e=>.inr ?_) g2 λr e=>.inr ?_) g3 λr e=>.inr ?_,ownsRow_putObj r2 _ hDX rfl,.inl ⟨rfl,t,hKG t _ _ _ (hKG t _ _ _ (hKG t _ _ _ hK g1 λr e=> ?_) g2 λr e=> ?_) g3 λr e=> ?_,hR⟩⟩
  all_goals (grind)
 case panic=>
  rintro D chain pre W hD ⟨e,he2,rfl,hWk⟩ hi hD2;rw[hsz]at hD;obtain⟨v,hv,hrow⟩:=hi.row;have g3:=Zk5 W D (.deferred none);have f0':Boxed (W.putObj D (.deferred none)) w.heap.size 55 v:=(Zi3 (by omega)).trans hv;have f1':Boxed (W.putObj D (.deferred none)) (w.heap.size+1) 32 (.int .i64 0):=(Zi3 (by omega)).trans hi.e;have hg4:w.grownBy (W.putObj D (.deferred none)) bt:=XB hi.gr g3 λr e=>.inr (by grind);refine⟨by simp,.inl ⟨D,_,rfl,run_takeDeferred hD2,?_⟩⟩;refine⟨by simp,.inr ⟨λh=>(by cases h),.func 130,_,130, #[.pointer (some ⟨w.heap.size,0,none⟩),.pointer (some ⟨w.heap.size+1,0,none⟩)],rfl,by rfl,λ_ _=>trivial,?_⟩⟩;refine(J2 _ w.heap.size (w.heap.size+1) e _ _ _ f0' f1' (by omega)).mono ?_;rintro e' u' w'' ⟨rfl,rfl,h0,h1,⟨hs2,hk⟩,hos,htape,hout⟩;have k0:=h0.cell;have k1:=h1.cell;refine⟨.tuple #[.slice none 0 0,.int .i64 e],by simp[results,Try.results128,go_sem,k0,k1],?_⟩;refine⟨_,e,[],rfl,⟨hos.trans hg4.os,htape.trans hg4.tape,hout.trans hg4.output,Zhr hg4.size hs2,λk hk2 hn=> ?_⟩,ZiJ _ _ _ _,.inr ⟨he2,rfl,hWk⟩⟩;exact(hk k (Zh6 hk2 hg4.size) (by omega) (by omega)).trans (hg4.block k hk2 hn)
end Vm
namespace Vm
open Go Go.Proofs Go.RowKit Go.Shelf
theorem Vv{w:World}{G:Nat->Prop}{k:IntKind}{n:Int}{v:Value}(r:Rd w G (.int k n) v):v=.int k n:=by cases r;rfl
theorem Z2x{w:World}{G:Nat->Prop}{b:Bool}{v:Value}(r:Rd w G (.bool b) v):v=.bool b:=by cases r;rfl
def Kn{w:World}{G:Nat->Prop}{ws:List Int}{v:Value}(r:Rd w G (.sl (ws.map vu)) v)(hG:∀b,G b->b<w.heap.size)(hl:ws.length<=1000000)(hu:∀x∈ws,U64 x)(q:Nat):
  ∃g o cap,Words w ws g o cap/\(v=.slice (some ⟨g,o,none⟩) ws.length cap\/(ws=[]/\∃a c,v=.slice a 0 c))/\((ws≠[]->g<w.heap.size)/\(g<w.heap.size\/g=q)):=by
 generalize hL:ws.map vu=L at r;cases r with
 |nil a cap hc=>
  have:ws=[]:=List.map_eq_nil_iff.1 hL;subst this;exact⟨q,0,0,⟨λi x hx=>by simp at hx,by simp,by grind [maxLen],by simp,by simp⟩,.inr ⟨rfl,a,cap,rfl⟩,λh=>absurd rfl h,.inr rfl⟩
 |sl _ b o cap k vs h1 h2 h3 h4 h5 h6=>
  subst hL;simp only[ZhG]at h1 h5⊢;refine⟨b,o,cap,⟨λi x hx=> ?_,h1,h2,hl,hu⟩,.inl rfl,λ_=>hG b h3,.inl (hG b h3)⟩;have hm:(ws.map vu)[i]?=some (vu x):=by rw[Zhd,hx];rfl
  have hk:k=1:=((h4 _ (Zh2 hm)).1).symm;subst hk;have hi:i<ws.length:=(ZgX.1 hx).1;rw[h5 i (by omega)];have:=h6 i (vu x) (by have:=X7 h4 hm 0 (by omega);simp_all);rw[Vv this]
def Z49{w:World}{G:Nat->Prop}{shs:List (Int×Int)}{v:Value}(r:Rd w G (.sl (shs.map shP)) v)(hG:∀b,G b->b<w.heap.size):
  (∃g o cap,v=.slice (some ⟨g,o,none⟩) shs.length cap/\shs.length<=cap/\cap<=maxLen/\g<w.heap.size/\∀(i:Nat) (x:Int×Int),shs[i]?=some x->w.cell? ⟨g,o+i*2,none⟩=some (.int .i64 x.1)/\w.cell? ⟨g,o+i*2+1,none⟩=some (.int .i64 x.2))\/
  (∃a cap,v=.slice a 0 cap/\shs=[]):=by
 generalize hL:shs.map shP=L at r;cases r with
 |nil a cap hc=>
  simp_all
 |sl _ b o cap k vs h1 h2 h3 h4 h5 h6=>
  subst hL;simp only[ZhG]at h1 h5⊢;refine .inl ⟨b,o,cap,rfl,h1,h2,hG b h3,λi x hx=> ?_⟩;have hm:(shs.map shP)[i]?=some (shP x):=by rw[Zhd,hx];rfl
  have hk:k=2:=((h4 _ (Zh2 hm)).1).symm;subst hk;have hi:i<shs.length:=(ZgX.1 hx).1;have e0:=h6 (i*2) (vi x.1) (by have:=X7 h4 hm 0 (by omega);simp_all);have e1:=h6 (i*2+1) (vi x.2) (by have:=X7 h4 hm 1 (by omega);simp_all)
  grind [Vv,Nat.add_assoc]
def qY{w:World}{G:Nat->Prop}:∀(l:List Ob) (i:Nat) (c:V),(flat (l.map obV))[i]?=some c->Rd w G c ((obsC l).getD i undef)
 | [],i,c,h=>by simp_all
 |x::l,i,c,h=>by
  rw[Zho,WS]at h;have e:obsC (x::l)=obC x++obsC l:=by simp[obsC]
  rw[e];by_cases hi:i<5
  ·match i,hi with
   |0,_=>simp[obV,V.cells]at h;subst h;exact .int _ _
   |1,_=>simp[obV,V.cells]at h;subst h;exact .int _ _
   |2,_=>simp[obV,V.cells]at h;subst h;exact .int _ _
   |3,_=>simp[obV,V.cells]at h;subst h;exact .bool _
   |4,_=>simp[obV,V.cells]at h;subst h;exact .int _ _
  ·have h2:(flat (l.map obV))[i-5]?=some c:=by
    rw[Zhi (by simp_all)]at h;simpa[obV,V.cells]using h
   have:=qY (w:=w) (G:=G) l (i-5) c h2
   have hg:(obC x++obsC l).getD i undef=(obsC l).getD (i-5) undef:=by
    simp only[List.getD_eq_getElem?_getD];rw[Zhi (by grind [obC])];simp[obC]
   simp_all
def ZaD(l:List Ob):∀x∈l.map obV,V.fits 5 x:=by
 intro x hx;obtain⟨o,_,rfl⟩:=Zh8.1 hx;exact⟨rfl,λc hc=>by simp[obV,V.cells]at hc;rcases hc with rfl|rfl|rfl|rfl|rfl<;>rfl⟩
def Z9o{w:World}{G:Nat->Prop}{B:Nat}{e:TypeId}{v:Value}{l:List Ob}(h:w.ownsRow B e 5 v l.length (obsC l))(hG:∀c,B<=c->c<w.heap.size->G c):Rd w G (.sl (l.map obV)) v:=by
 have hlen:(obsC l).length=l.length*5:=h.1;rcases h.2 with ⟨rfl,h0⟩|⟨g,cap,cur,rfl,hb,hg,hnc,hcm,_⟩
 ·have:l=[]:=ZjG.1 h0;subst this;exact .nil _ _ (by grind [maxLen])
 ·have:=Rd.sl (w:=w) (G:=G) (l.map obV) g 0 cap 5 (λi=>(obsC l).getD i undef) (by simp_all) hcm (hG g hb (ZI hg)) (ZaD l) (λi hi=>by
    have hi':i< (obsC l).length:=by rw[hlen];simpa using hi
    rw[ZhK,h.cellAt i (by omega)];simp[hi']) (λi c hc=>qY l i c hc)
  simp_all
def Ze9{ws:List Int}{shs:List (Int×Int)}{old:Bool}{K:Nat->World->Prop}{n:Int}{xs:List Ob}{W:World}(h0:shs=[])(h:(n=0/\endS ws shs old K xs W)\/((n=2\/n=3)/\xs=[]/\Zy ws shs old=([],n))):Zy ws shs old=(xs,n):=by
 subst h0;rcases h with ⟨rfl,t,_,h⟩|⟨_,rfl,h⟩
 ·simp_all
 ·exact h
def Z4C:KP:=by
 intro ws hl hu;refine⟨by kernel_rfl,λw G vs hG hsz hvs=> ?_⟩;have r0:=hvs 0 _ rfl;obtain⟨⟨l⟩⟩:=vs
 ·simp at hsz
 rename_i v0 l;cases l with
 |cons _ _=>simp at hsz
 |nil=>
  simp at r0;obtain⟨g,o,cap,hw,hsv,hg1,hg2⟩:=Kn r0 hG hl hu (w.heap.size+1);have hk:=jP (w:=w) (shs:=[]) (old:=false) (bt:=none) (K:=λt _=>t=0) hw hsv ⟨hg1,by omega,by omega⟩ (.inl rfl) (by simp) (by simp) Z9W rfl (λt A B row h _ _=>h) (λbl base t A B _ _ h _=>h)
  obtain⟨sa,sn,sc,rfl⟩:∃a n c,v0=.slice a n c:=by
   rcases hsv with rfl|⟨_,a,c,rfl⟩
   ·simp
   ·simp
  have HK:=Zhu hk;clear hk hw hsv r0 hvs;go_enter Sol.func117,Try.ntmps117
  go_wp2_with (go_at_call 128;refine HK.out.mono ?_;rintro e w1 ⟨v,n,xs,rfl,hgr,hrow,hE⟩;have HR:=Zhu (And.intro hgr (And.intro hrow hE));clear hgr hrow hE)
  obtain⟨hgr,hrow,hE⟩:=HR.out;have hW:=Ze9 rfl hE;refine ZiV (v:=.tuple #[v,.int .i64 n]) (by simp[results,Try.results117,go_sem]) rfl ⟨_,rfl,(ZhL _ w).grown hgr (Zh1 _) (λj e=>by cases e),?_⟩;rw[hW];refine .tup _ _ rfl ?_;intro i y hy
  match i,hy with
  |0,hy=>cases hy;exact Z9o hrow λc h1 h2=>.inr ⟨by omega,h2⟩
  |1,hy=>cases hy;exact .int _ _
def KpW.cell{bl base:Nat}{A B:World}(h:KpW bl base A B){k i:Nat}{c:Value}(hc:A.cell? ⟨k,i,none⟩=some c)(hk:k<base)(hn:k≠bl):B.cell? ⟨k,i,none⟩=some c:=by
 have hc2:=hc;unfold World.cell? at hc;cases hh:A.heap[k]? with
 |none=>simp_all
 |some ob=>
  have hob:ob.isCells=true:=by
   rw[hh]at hc;cases ob<;>simp_all [Obj.isCells]
  rw[<-hc2];exact ZhV (a:=⟨k,i,none⟩) ((h.same k ob hh hob hn (.inl hk)).trans hh.symm)
def KOld.grown{shs:List (Int×Int)}{bt bs t n:Nat}{v:Value}{A B:World}{row:Option Nat}(h:KOld shs bt bs v t A)(hg:A.grownBy B row)(hbt:bt<n)(hbs:bs<n)(hv:shs≠[]->∀g o cap,v=.slice (some ⟨g,o,none⟩) shs.length cap->g<n)(hr:∀r,row=some r->n<=r):KOld shs bt bs v t B:=by
 obtain⟨h1,h2,h3⟩:=h;exact⟨(hg.block _ (ZI h1) (λe=>by grind)).trans h1,h2.grown hg (λe=>by grind) (λhn g o cap e e2=>by grind),h3⟩
def KOld.kp{shs:List (Int×Int)}{bt bs t n bl base:Nat}{v:Value}{A B:World}(h:KOld shs bt bs v t A)(hg:KpW bl base A B)(hbt:bt<n)(hbs:bs<n)(hv:shs≠[]->∀g o cap,v=.slice (some ⟨g,o,none⟩) shs.length cap->g<n)(h1:n<=bl)(h2:n<=base):KOld shs bt bs v t B:=by
 obtain⟨k1,⟨k2,k3⟩,k4⟩:=h;refine⟨hg.same _ _ k1 rfl (by omega) (.inl (by omega)),⟨hg.same _ _ k2 rfl (by omega) (.inl (by omega)),?_⟩,k4⟩;rcases k3 with ⟨g,o,cap,rfl,a1,a2,a3,a4⟩|h
 ·refine .inl ⟨g,o,cap,rfl,a1,a2,Zh6 a3 hg.size,λi x hx=> ?_⟩;have:=hv (λe=>by simp_all) _ _ _ rfl;exact⟨hg.cell (a4 i x hx).1 (by omega) (by omega),hg.cell (a4 i x hx).2 (by omega) (by omega)⟩
 simp_all
def Words.below2{w W:World}{ws:List Int}{g o cap:Nat}(h:Words w ws g o cap)(hs:ws≠[]->g<w.heap.size)(hb:Below w.heap.size w W):Words W ws g o cap:=
 ⟨λi x hx=>by rw[hb.cell (p:=⟨g,o+i,none⟩) (hs (λe=>by simp_all))];exact h.at_ i x hx,h.le,h.cap,h.len,h.u64⟩
def KQ:WH:=by
 intro ws shs hl hsl hu hsh;refine⟨by kernel_rfl,λw G vs hG hsz hvs=> ?_⟩;have r0:=hvs 0 _ rfl;have r1:=hvs 1 _ rfl;obtain⟨⟨l⟩⟩:=vs
 ·simp at hsz
 rename_i v0 l;cases l with
 |nil=>simp at hsz
 |cons v1 l=>
 cases l with
 |cons _ _=>simp at hsz
 |nil=>
  simp at r0 r1;obtain⟨g,o,cap,hw,hsv,hg1,hg2⟩:=Kn r0 hG hl hu (w.heap.size+3);have hv1:=Z49 r1 hG
  obtain⟨sa,sn,sc,rfl⟩:∃a n c,v0=.slice a n c:=by
   rcases hsv with rfl|⟨_,a,c,rfl⟩
   ·simp
   ·simp
  obtain⟨ta,tc,rfl⟩:∃a c,v1=.slice a shs.length c:=by
   grind
  have b0:((w.alloc (.cells #[.slice ta shs.length tc] 180)).alloc (.cells #[.int .i64 0] 3)).heap[w.heap.size]?=some (.cells #[.slice ta shs.length tc] 180 (0,0)):=(Zi2 _ _ _ (by simp)).trans (ZhH w _)
  have b1:((w.alloc (.cells #[.slice ta shs.length tc] 180)).alloc (.cells #[.int .i64 0] 3)).heap[w.heap.size+1]?=some (.cells #[.int .i64 0] 3 (0,0)):=by
   have:=ZhH (w.alloc (.cells #[.slice ta shs.length tc] 180)) (.cells #[.int .i64 0] 3);simp_all
  have hB1:Below w.heap.size w ((w.alloc (.cells #[.slice ta shs.length tc] 180)).alloc (.cells #[.int .i64 0] 3)):=((ZhL _ w).alloc (Zh1 _) _).alloc (by simp) _;have hsz1:((w.alloc (.cells #[.slice ta shs.length tc] 180)).alloc (.cells #[.int .i64 0] 3)).heap.size=w.heap.size+2:=by simp
  have hgb:shs≠[]->∀g o cap,Value.slice ta shs.length tc=.slice (some ⟨g,o,none⟩) shs.length cap->g<w.heap.size:=by
   intro hn g o cap e;rcases hv1 with ⟨g1,o1,c1,e1,_,_,h4,_⟩|⟨_,_,_,h⟩
   ·simp_all
   ·simp_all
  have hk:Calls Sol.prog 128 #[.slice sa sn sc,.func (.func 129) #[] #[.pointer (some ⟨w.heap.size+1,0,none⟩),.pointer (some ⟨w.heap.size,0,none⟩)]] ((w.alloc (.cells #[.slice ta shs.length tc] 180)).alloc (.cells #[.int .i64 0] 3))
    (Z4B ((w.alloc (.cells #[.slice ta shs.length tc] 180)).alloc (.cells #[.int .i64 0] 3)) ws shs true (some (w.heap.size+1)) (KOld shs (w.heap.size+1) w.heap.size (.slice ta shs.length tc))):=by
   generalize hW1:(w.alloc (.cells #[.slice ta shs.length tc] 180)).alloc (.cells #[.int .i64 0] 3)=W1 at*;have hgb1:shs≠[]->∀g o cap,Value.slice ta shs.length tc=.slice (some ⟨g,o,none⟩) shs.length cap->g<W1.heap.size:=λhn g o cap e=>by grind
   refine jP (hw.below2 hg1 hB1) hsv ⟨λh=>by grind,by omega,by omega⟩ (.inr ⟨_,_,rfl⟩) (λr e=>by grind) (λe=>by grind) (Z9X hsl (by omega) (λhn g o cap e=>by grind)) ⟨b1,⟨b0,?_⟩,by omega⟩ (λt A B row h hg hr=>h.grown hg (n:=W1.heap.size) (by omega) (by omega) hgb1 hr) (λbl base t A B h1 h2 h hk=>h.kp hk (n:=W1.heap.size) (by omega) (by omega) hgb1 h1 h2);rcases hv1 with ⟨g1,o1,c1,e1,a1,a2,a3,a4⟩|⟨a,c,e1,h⟩
   ·exact .inl ⟨g1,o1,c1,e1,a1,a2,by omega,λi x hx=>⟨(hB1.cell (p:=⟨g1,o1+i*2,none⟩) a3).trans (a4 i x hx).1,(hB1.cell (p:=⟨g1,o1+i*2+1,none⟩) a3).trans (a4 i x hx).2⟩⟩
   ·simp_all
  have hrd:∀w1 v n (xs:List Ob),(v=.slice none 0 0/\xs=[]\/w1.ownsRow (w.heap.size+6) 59 5 v xs.length (obsC xs))->Zy ws shs true=(xs,n)->Rd w1 (λb=>true=false/\G b\/w.heap.size<=b/\b<w1.heap.size) (.tup [.sl ((Zy ws shs true).1.map obV),vi (Zy ws shs true).2]) (.tuple #[v,.int .i64 n]):=by
   intro w1 v n xs hrow hW;rw[hW];refine .tup _ _ rfl ?_;intro i y hy
   match i,hy with
   |0,hy=>
    cases hy;rcases hrow with ⟨rfl,rfl⟩|hrow
    ·exact .nil _ _ (by grind [maxLen])
    ·exact Z9o hrow λc h1 h2=>.inr ⟨by omega,h2⟩
   |1,hy=>cases hy;exact .int _ _
  have hk2:Calls Sol.prog 128 #[.slice sa sn sc,.func (.func 129) #[] #[.pointer (some ⟨w.heap.size+1,0,none⟩),.pointer (some ⟨w.heap.size,0,none⟩)]] ((w.alloc (.cells #[.slice ta shs.length tc] 180)).alloc (.cells #[.int .i64 0] 3)) λe w1=>
    (∃(v:Value) (t:Nat),e=.returned (.tuple #[v,.int .i64 0])/\w1.cell? ⟨w.heap.size+1,0,none⟩=some (.int .i64 t)/\w1.cell? ⟨w.heap.size,0,none⟩=some (.slice ta shs.length tc)/\(t:Int)<shs.length/\Hid (Below w.heap.size w w1/\Rd w1 (λb=>true=false/\G b\/w.heap.size<=b/\b<w1.heap.size) (.tup [.sl ((Zy ws shs true).1.map obV),vi (Zy ws shs true).2]) (.tuple #[.slice none 0 0,.int .i64 3])))\/
    (∃(v:Value) (t:Nat),e=.returned (.tuple #[v,.int .i64 0])/\w1.cell? ⟨w.heap.size+1,0,none⟩=some (.int .i64 t)/\w1.cell? ⟨w.heap.size,0,none⟩=some (.slice ta shs.length tc)/\¬(t:Int)<shs.length/\Hid (Below w.heap.size w w1/\Rd w1 (λb=>true=false/\G b\/w.heap.size<=b/\b<w1.heap.size) (.tup [.sl ((Zy ws shs true).1.map obV),vi (Zy ws shs true).2]) (.tuple #[v,.int .i64 0])))\/
    (∃(v:Value) (n:Int),e=.returned (.tuple #[v,.int .i64 n])/\¬n=0/\Hid (Below w.heap.size w w1/\Rd w1 (λb=>true=false/\G b\/w.heap.size<=b/\b<w1.heap.size) (.tup [.sl ((Zy ws shs true).1.map obV),vi (Zy ws shs true).2]) (.tuple #[.slice none 0 0,.int .i64 n]))):=by
   refine hk.mono ?_;rintro e w1 ⟨v,n,xs,rfl,hgr,hrow,hE⟩;rw[hsz1]at hrow;have hB:Below w.heap.size w w1:=hB1.trans ((ZhL _ _).grown hgr (by omega) (λj e=>by grind));rcases hE with ⟨rfl,t,⟨hb,hs,ht⟩,hWk⟩|⟨hn,rfl,hWk⟩
   ·have q1:w1.cell? ⟨w.heap.size+1,0,none⟩=some (.int .i64 t):=by rw[Zhg _ _ _ _ _ _ hb];rfl
    have q2:w1.cell? ⟨w.heap.size,0,none⟩=some (.slice ta shs.length tc):=by rw[Zhg _ _ _ _ _ _ hs.box];rfl
    by_cases hlt:t<shs.length
    ·rw[if_pos hlt]at hWk;exact .inl ⟨v,t,rfl,q1,q2,by omega,Zhu ⟨hB,hrd w1 _ _ [] (.inl ⟨rfl,rfl⟩) hWk⟩⟩
    ·rw[if_neg hlt]at hWk;exact .inr (.inl ⟨v,t,rfl,q1,q2,by omega,Zhu ⟨hB,hrd w1 _ _ xs (.inr hrow) hWk⟩⟩)
   ·exact .inr (.inr ⟨v,n,rfl,by omega,Zhu ⟨hB,hrd w1 _ _ [] (.inl ⟨rfl,rfl⟩) hWk⟩⟩)
  have HK:=Zhu hk2;clear hw hsv r0 r1 hvs hv1 hg1 hg2 hk hk2 hB1 b0 b1 hgb hsz1 hrd;go_enter Sol.func119,Try.ntmps119;have hmf:∀(fn:Go.Fn) (first cap:Array Value) (w:World),(Instr.makeFunc fn first cap).run Sol.prog w=.ok (.func fn first cap) w:=λ_ _ _ _=>rfl
  go_wp2_with (go_at_call 128;refine HK.out.mono ?_;rintro e w1 (⟨v,t,rfl,q1,q2,hlt,HF⟩|⟨v,t,rfl,q1,q2,hlt,HF⟩|⟨v,n,rfl,hn,HF⟩))
  ·refine ZiV (v:=.tuple #[.slice none 0 0,.int .i64 3]) (by simp[results,Try.results119,go_sem]) rfl ⟨_,rfl,HF.out.1,HF.out.2⟩
  ·refine ZiV (v:=.tuple #[v,.int .i64 0]) (by simp[results,Try.results119,go_sem]) rfl ⟨_,rfl,HF.out.1,HF.out.2⟩
  ·refine ZiV (v:=.tuple #[.slice none 0 0,.int .i64 n]) (by simp[results,Try.results119,go_sem]) rfl ⟨_,rfl,HF.out.1,HF.out.2⟩
end Vm
namespace Vm
open Go Go.Proofs Go.RowKit
def Z6e{w:World}{G:Nat->Prop}{l:List Ob}{v:Value}(r:Rd w G (.sl (l.map obV)) v)(hG:∀b,G b->b<w.heap.size):
  (∃g o cap,v=.slice (some ⟨g,o,none⟩) l.length cap/\l.length<=cap/\cap<=maxLen/\g<w.heap.size/\∀(i:Nat) (x:Ob),l[i]?=some x->w.cell? ⟨g,o+i*5,none⟩=some (.int .i64 x.at_)/\w.cell? ⟨g,o+i*5+1,none⟩=some (.int .i64 x.size)/\
   w.cell? ⟨g,o+i*5+2,none⟩=some (.int .i64 x.ptrs)/\w.cell? ⟨g,o+i*5+3,none⟩=some (.bool x.gone)/\w.cell? ⟨g,o+i*5+4,none⟩=some (.int .u64 x.target))\/
  (∃a cap,v=.slice a 0 cap/\l=[]):=by
 generalize hL:l.map obV=L at r;cases r with
 |nil a cap hc=>
  simp_all
 |sl _ b o cap k vs h1 h2 h3 h4 h5 h6=>
  subst hL;simp only[ZhG]at h1 h5⊢;refine .inl ⟨b,o,cap,rfl,h1,h2,hG b h3,λi x hx=> ?_⟩;have hm:(l.map obV)[i]?=some (obV x):=by rw[Zhd,hx];rfl
  have hk:k=5:=((h4 _ (Zh2 hm)).1).symm;subst hk;have hi:i<l.length:=(ZgX.1 hx).1;have e0:=h6 (i*5) (vi x.at_) (by have:=X7 h4 hm 0 (by omega);simp_all);have e1:=h6 (i*5+1) (vi x.size) (by have:=X7 h4 hm 1 (by omega);simp_all);have e2:=h6 (i*5+2) (vi x.ptrs) (by have:=X7 h4 hm 2 (by omega);simp_all);have e3:=h6 (i*5+3) (.bool x.gone) (by have:=X7 h4 hm 3 (by omega);simp_all);have e4:=h6 (i*5+4) (vu x.target) (by have:=X7 h4 hm 4 (by omega);simp_all)
  grind [Vv,Nat.add_assoc,Z2x]
end Vm
end
section

end
section
namespace Vm
open Go Go.Proofs
def Zbw{h:Hp}(hh:h.ok):VC Sol.prog 25 false [hpV h] (.bool (YA h)):=by
 rw[<-(Ls h).1];exact Z4w Z4C KQ hh
def Zf1{h:Hp}(hh:h.ok){k:Int}:VC Sol.prog 27 false [hpV h,vi k] (.tup [.sl ((Q8 h k).1.map obV),vi (Q8 h k).2]):=by
 rw[<-Z5R h k];exact jW Z4C KQ hh
end Vm
end
section
namespace Vm
open Go
open Go.Proofs
def p17:Fn:=⟨5,[0,1,2,3,6],
pQ [pR [(1,pS 0 2),(2,.m [pN,pN]),pV 3 (pI 0)],pQ [pC [pK 5 19 [.mm 1 0 2]] [pV 4 (.un .not (.s 5))]] (.cond (.s 4) (pQ [.reg ⟨[],[([],.ag [pN,pN])],[(2,.m [pN,pN]),pV 3 (pI 1)]⟩] .ret) .skip),pC [.callm 6 [] (.id 47) [.fz,(.own 97)] [.mm 1 0 2,.c (.mp 0 [] [])]] [(2,pM (.sz (.ext (.s 6) 0) 2) 2),pV 3 (pI 0)]] .ret,[(2,(.ag 2)),(3,.v)]⟩
def c17:Zh Sol.prog fresh sig [.fz] [] Try.f17=some p17:=by kernel_rfl
def p18:Fn:=⟨12,[0,1,2,3,4,5,24,6,29,7,8,63],
pQ [pR [(2,pS 0 2),(3,pS 1 2),pV 4 pF],pC [pK 12 48 [.m 2 1,.m 3 1]] [pV 5 (.s 12)],pQ [.reg ⟨[.lt 13 [] (.un .not (.s 5))],[([(13,false)],.bin .neq (.len (.m 2 0)) (.len (.m 3 0)))],[pV 6 (.ite (.s 13) pT (.bin .neq (.len (.m 2 0)) (.len (.m 3 0))))]⟩] (.cond (.s 6) (pQ [pR [pV 4 pF]] .ret) .skip),pQ [pR [pV 7 (pI 0)]] (.block 0 (.loop [0,1,2,3,4,5,6,7] (pQ [pQ [pR [pV 8 (.bin .lss (.s 7) (.len (.m 2 0)))]] (.cond (.s 8) .skip (.exit 0)),.block 1 (pQ [pC [pK 14 48 [.fld (.idx (.m 2 0) (.s 7) 2) 0,.fld (.idx (.m 3 0) (.s 7) 2) 0]] [pV 9 (.s 14)],pC [pK 15 49 [.fld (.idx (.m 2 0) (.s 7) 2) 1,.fld (.idx (.m 3 0) (.s 7) 2) 1]] [pV 10 (.s 15)],.reg ⟨[.lt 16 [] (.un .not (.s 9))],[([(16,false)],.un .not (.s 10))],[pV 11 (.ite (.s 16) pT (.un .not (.s 10)))]⟩] (.cond (.s 11) (pQ [pR [pV 4 pF]] .ret) .skip))] (pR [pV 7 (.bin .add (.s 7) (pI 1))])))),pR [pV 4 pT]] .ret,[(4,.v)]⟩
def c18:Zh Sol.prog fresh sig [.fz,.fz] [] Try.f18=some p18:=by kernel_rfl
def p19:Fn:=⟨11,[0,1,2,9,3,14,13,15,5,12,32],
pQ [pR [(1,pS 0 2),pV 2 pF],pQ [pR [pV 3 (.bin .gtr (.len (.m 1 1)) (pI 16))]] (.cond (.s 3) (pQ [pR [pV 2 pF]] .ret) .skip),pR [(4,.no)],pQ [pR [(4,.no),pV 5 (pI 0),pV 6 (.len (.m 1 0)),pV 9 (.m 1 0)]] (.block 0 (.loop [0,1,2,3,4,5,6,9] (pQ [pR [(4,.no),pV 7 (.bin .lss (.s 5) (.s 6))],.cond (.s 7) .skip (.exit 0),.block 1 (pQ [pR [(4,.no),(8,pM (.flds (.idx (.s 9) (.s 5) 2) 0 2) 2)],.reg ⟨[.lt 11 [] (.bin .gtr (.bin .add (.len (.m 8 0)) (.len (.m 8 1))) (pI 255)),.callm 12 [(11,false)] (.id 50) [.fz,(.mem [.fz,.fz])] [.m 8 0,.ag [.m 1 0,.m 1 1]]],[([(11,false)],.un .not (.ext (.s 12) 0))],[(1,pM (.ext (.s 12) 1) 2),(4,.no),pV 10 (.ite (.s 11) pT (.un .not (.ext (.s 12) 0)))]⟩] (.cond (.s 10) (pQ [pR [pV 2 pF,(4,.no)]] .ret) .skip))] (pR [(4,.no),pV 5 (.bin .add (.s 5) (pI 1))])))),pC [.callm 13 [] (.id 50) [.fz,(.mem [.fz,.fz])] [.m 1 1,.ag [.m 1 0,.m 1 1]]] [(1,pM (.ext (.s 13) 1) 2),pV 2 (.ext (.s 13) 0),(4,.no)]] .ret,[(2,.v)]⟩
def c19:Zh Sol.prog fresh sig [.fz] [] Try.f19=some p19:=by kernel_rfl
def p24:Fn:=⟨9,[0,1,2,3,4,15,5,6,7],
pQ [pR [(2,pS 0 2),(3,pS 1 2),pV 4 pF],pQ [.reg ⟨[pK 9 19 [.mm 2 0 2],.lt 10 [] (.un .not (.s 9)),.call 11 [(10,false)] (.id 19) false false [.mm 3 0 2]],[([(10,false)],.un .not (.s 11))],[pV 5 (.ite (.s 10) pT (.un .not (.s 11)))]⟩] (.cond (.s 5) (pQ [pR [pV 4 pF]] .ret) .skip),pR [pV 6 (.c (.mp 0 [] []))],pC [.callm 12 [] (.id 47) [.fz,(.own 97)] [.mm 2 0 2,.s 6]] [pV 6 (.ext (.s 12) 1),(7,pM (.sz (.ext (.s 12) 0) 2) 2)],pC [.callm 13 [] (.id 47) [.fz,(.own 97)] [.mm 3 0 2,.s 6]] [pV 6 (.ext (.s 13) 1),(8,pM (.sz (.ext (.s 13) 0) 2) 2)],pC [pK 14 54 [.m 7 1,.m 8 1],.lt 15 [] (.s 14),.call 16 [(15,true)] (.id 55) false false [.m 7 0,.m 8 0,.c (.fn 56)]] [pV 4 (.ite (.s 15) (.s 16) pF)]] .ret,[(4,.v)]⟩
def c24:Zh Sol.prog fresh sig [.fz,.fz] [] Try.f24=some p24:=by kernel_rfl
def p47:Fn:=⟨11,[0,1,2,4,5,13,12,14,7,11,8],
pQ [pR [(2,pS 0 2),(3,.m [pN,pN])],pR [(4,.m [pN,pN])],pQ [pC [.callm 9 [] (.id 80) [.fz,(.own 97)] [.mm 2 0 2,.s 1]] [pV 1 (.ext (.s 9) 1),pV 5 (pI 0),pV 6 (.len (.ext (.s 9) 0)),pV 9 (.ext (.s 9) 0)]] (.block 0 (.loop [0,1,2,3,4,5,6,9] (pQ [pR [pV 7 (.bin .lss (.s 5) (.s 6))],.cond (.s 7) .skip (.exit 0),.block 1 (pQ [pR [pV 8 (.fld (.idx (.s 9) (.s 5) 1) 0)],pR [(10,pM (.flds (.idx (.m 2 0) (.s 8) 2) 0 2) 2)]] (pC [.call 11 [] (.id 81) true false [.m 10 0,.s 1]] [(4,.m [.app (.m 4 0) (.lit [.ag [.one (.s 11),.app pN (.m 10 1) 1]]) 2,.m 4 1])]))] (pR [pV 5 (.bin .add (.s 5) (pI 1))])))),pC [.call 12 [] (.id 81) true false [.m 2 1,.s 1]] [(4,.m [.m 4 0,.one (.s 12)])],pR [(3,pM (.mm 4 0 2) 2)]] .ret,[(3,(.ag 2))]⟩
def c47:Zh Sol.prog fresh sig [.fz,(.own 97)] [(1,(.own 97))] Try.f47=some p47:=by kernel_rfl
def p48:Fn:=⟨7,[0,1,4,10,5,14,25],
pQ [pR [pV 2 pF],pQ [pR [pV 3 (.bin .neq (.len (.s 0)) (.len (.s 1)))]] (.cond (.s 3) (pQ [pR [pV 2 pF]] .ret) .skip),pQ [pR [pV 4 (pI 0)]] (.block 0 (.loop [0,1,2,3,4] (pQ [pQ [pR [pV 5 (.bin .lss (.s 4) (.len (.s 0)))]] (.cond (.s 5) .skip (.exit 0)),.block 1 (pQ [pR [pV 6 (.bin .neq (.fld (.idx (.s 0) (.s 4) 1) 0) (.fld (.idx (.s 1) (.s 4) 1) 0))]] (.cond (.s 6) (pQ [pR [pV 2 pF]] .ret) .skip))] (pR [pV 4 (.bin .add (.s 4) (pI 1))])))),pR [pV 2 pT]] .ret,[(2,.v)]⟩
def c48:Zh Sol.prog fresh sig [.fz,.fz] [] Try.f48=some p48:=by kernel_rfl
def p50:Fn:=⟨9,[0,1,3,8,7,9,5,6,20],
pQ [pR [pV 2 pF],pQ [pR [pV 3 (pI 0),pV 4 (.len (.s 0)),pV 7 (.s 0)]] (.block 0 (.loop [0,1,2,3,4,7] (pQ [pR [pV 5 (.bin .lss (.s 3) (.s 4))],.cond (.s 5) .skip (.exit 0),.block 1 (pQ [pR [pV 6 (.fld (.idx (.s 7) (.s 3) 1) 0)],.reg ⟨[.lt 9 [] (.bin .lss (.s 6) (pI (-1)))],[([(9,false)],.bin .geq (.s 6) (.len (.m 1 0)))],[pV 8 (.ite (.s 9) pT (.bin .geq (.s 6) (.len (.m 1 0))))]⟩] (.cond (.s 8) (pQ [pR [pV 2 pF]] .ret) .skip))] (pR [pV 3 (.bin .add (.s 3) (pI 1))])))),pR [pV 2 pT]] .ret,[(2,.v)]⟩
def c50:Zh Sol.prog fresh sig [.fz,(.mem [.fz,.fz])] [(1,(.mem [.fz,.fz]))] Try.f50=some p50:=by kernel_rfl
def p54:Fn:=⟨9,[0,1,4,10,13,12,14,5,24],
pQ [pR [pV 2 pF],pQ [pR [pV 3 (.bin .neq (.len (.s 0)) (.len (.s 1)))]] (.cond (.s 3) (pQ [pR [pV 2 pF]] .ret) .skip),pQ [pR [pV 4 (pI 0),pV 5 (.len (.s 0))]] (.block 0 (.loop [0,1,2,3,4,5] (pQ [pR [pV 6 (.bin .lss (.s 4) (.s 5))],.cond (.s 6) .skip (.exit 0),.block 1 (pQ [pR [pV 7 (.s 4)],pR [pV 8 (.bin .neq (.fld (.idx (.s 0) (.s 7) 1) 0) (.fld (.idx (.s 1) (.s 7) 1) 0))]] (.cond (.s 8) (pQ [pR [pV 2 pF]] .ret) .skip))] (pR [pV 4 (.bin .add (.s 4) (pI 1))])))),pR [pV 2 pT]] .ret,[(2,.v)]⟩
def c54:Zh Sol.prog fresh sig [.fz,.fz] [] Try.f54=some p54:=by kernel_rfl
def p55:Fn:=⟨13,[0,1,2,6,14,17,16,18,8,7,15,9,30],
pQ [pR [pV 3 pF],pQ [pR [pV 4 (.bin .neq (.len (.s 0)) (.len (.s 1)))]] (.cond (.s 4) (pQ [pR [pV 3 pF]] .ret) .skip),pQ [pR [pV 5 (pI 0),pV 6 (.len (.s 0)),pV 10 (.s 0)]] (.block 0 (.loop [0,1,2,3,4,5,6,10] (pQ [pR [pV 7 (.bin .lss (.s 5) (.s 6))],.cond (.s 7) .skip (.exit 0),.block 1 (pQ [pR [(8,pM (.flds (.idx (.s 10) (.s 5) 2) 0 2) 2),pV 9 (.s 5)],pR [(11,pM (.flds (.idx (.s 1) (.s 9) 2) 0 2) 2)],pC [.call 13 [] (.e (.s 2)) false false [.mm 8 0 2,.mm 11 0 2]] [pV 12 (.un .not (.s 13))]] (.cond (.s 12) (pQ [pR [pV 3 pF]] .ret) .skip))] (pR [pV 5 (.bin .add (.s 5) (pI 1))])))),pR [pV 3 pT]] .ret,[(3,.v)]⟩
def c55:Zh Sol.prog fresh sig [.fz,.fz,.fz] [] Try.f55=some p55:=by kernel_rfl
def p56:Fn:=⟨5,[0,1,2,3,4],
pQ [pR [(2,pS 0 2),(3,pS 1 2),pV 4 pF],pC [pK 5 54 [.m 2 0,.m 3 0],.lt 6 [] (.s 5),.call 7 [(6,true)] (.id 57) false false [.m 2 1,.m 3 1]] [pV 4 (.ite (.s 6) (.s 7) pF)]] .ret,[(4,.v)]⟩
def c56:Zh Sol.prog fresh sig [.fz,.fz] [] Try.f56=some p56:=by kernel_rfl
def p57:Fn:=⟨9,[0,1,4,10,13,12,14,5,24],
pQ [pR [pV 2 pF],pQ [pR [pV 3 (.bin .neq (.len (.s 0)) (.len (.s 1)))]] (.cond (.s 3) (pQ [pR [pV 2 pF]] .ret) .skip),pQ [pR [pV 4 (pI 0),pV 5 (.len (.s 0))]] (.block 0 (.loop [0,1,2,3,4,5] (pQ [pR [pV 6 (.bin .lss (.s 4) (.s 5))],.cond (.s 6) .skip (.exit 0),.block 1 (pQ [pR [pV 7 (.s 4)],pR [pV 8 (.bin .neq (.fld (.idx (.s 0) (.s 7) 1) 0) (.fld (.idx (.s 1) (.s 7) 1) 0))]] (.cond (.s 8) (pQ [pR [pV 2 pF]] .ret) .skip))] (pR [pV 4 (.bin .add (.s 4) (pI 1))])))),pR [pV 2 pT]] .ret,[(2,.v)]⟩
def c57:Zh Sol.prog fresh sig [.fz,.fz] [] Try.f57=some p57:=by kernel_rfl
def p80:Fn:=⟨9,[0,1,2,3,4,5,6,7,17],
pQ [pR [(1,.no),(2,pS 0 2),(3,.m [.s 1]),pV 4 pN],pR [(3,.m [.mclr (.m 3 0)])],pR [(5,.m [pN])],pR [(6,.no)],pC [.callm 9 [] (.id 102) [.fz,(.mem [(.own 97)]),(.mem [(.own 3)])] [.m 2 1,.ag [.m 3 0],.ag [.m 5 0]]] [(3,.m [.fld (.ext (.s 9) 1) 0]),(5,.m [.fld (.ext (.s 9) 2) 0]),(6,.no)],pQ [pR [(6,.no),pV 7 (pI 0)]] (.block 0 (.loop [0,2,3,4,5,6,7] (pQ [pQ [pR [(6,.no),pV 8 (.bin .lss (.s 7) (.len (.m 5 0)))]] (.cond (.s 8) .skip (.exit 0)),.block 1 (pC [.callm 10 [] (.id 102) [.fz,(.mem [(.own 97)]),(.mem [(.own 3)])] [.fld (.idx (.m 2 0) (.fld (.idx (.m 5 0) (.s 7) 1) 0) 2) 0,.ag [.m 3 0],.ag [.m 5 0]]] [(3,.m [.fld (.ext (.s 10) 1) 0]),(5,.m [.fld (.ext (.s 10) 2) 0]),(6,.no)])] (pR [(6,.no),pV 7 (.bin .add (.s 7) (pI 1))])))),pR [pV 4 (.m 5 0),(6,.no)]] .ret,[(4,.v)]⟩
def c80:Zh Sol.prog fresh sig [.fz,(.own 97)] [(3,(.mem [(.own 97)]))] Try.f80=some p80:=by kernel_rfl
def p81:Fn:=⟨10,[0,1,4,5,10,9,11,7,8,15],
pQ [pR [pV 2 pN],pR [pV 3 pN],pQ [pR [pV 4 (pI 0),pV 5 (.len (.s 0)),pV 8 (.s 0)]] (.block 0 (.loop [0,1,2,3,4,5,8] (pQ [pR [pV 6 (.bin .lss (.s 4) (.s 5))],.cond (.s 6) .skip (.exit 0),.block 1 (pQ [pR [pV 7 (.fld (.idx (.s 8) (.s 4) 1) 0)],pQ [pR [pV 9 (.bin .geq (.s 7) (pI 0))]] (.cond (.s 9) (pR [pV 7 (.lk (.i .i64) (.s 1) (.s 7) (.int .i64 0) false)]) .skip)] (pR [pV 3 (.app (.s 3) (.lit [.one (.s 7)]) 1)]))] (pR [pV 4 (.bin .add (.s 4) (pI 1))])))),pR [pV 2 (.s 3),(3,.no)]] .ret,[(2,.v)]⟩
def c81:Zh Sol.prog fresh sig [.fz,.fz] [(4,(.own 3))] Try.f81=some p81:=by kernel_rfl
def p102:Fn:=⟨11,[0,1,2,10,9,11,5,8,6,7,25],
pQ [pR [pV 3 (pI 0),pV 4 (.len (.s 0)),pV 7 (.s 0)]] (.block 0 (.loop [0,1,2,3,4,7] (pQ [pR [pV 5 (.bin .lss (.s 3) (.s 4))],.cond (.s 5) .skip (.exit 0),.block 1 (pQ [pR [pV 6 (.fld (.idx (.s 7) (.s 3) 1) 0)],pR [pV 8 (.fl (.ext (.lk (.i .i64) (.m 1 0) (.s 6) (.int .i64 0) true) 0)),pV 9 (.fl (.ext (.lk (.i .i64) (.m 1 0) (.s 6) (.int .i64 0) true) 1))],.reg ⟨[.lt 11 [] (.bin .geq (.s 6) (pI 0))],[([(11,true)],.un .not (.s 9))],[pV 10 (.ite (.s 11) (.un .not (.s 9)) pF)]⟩] (.cond (.s 10) (pQ [pR [(1,.m [.mput (.i .i64) (.m 1 0) (.s 6) (.len (.m 2 0))])]] (pR [(2,.m [.app (.m 2 0) (.lit [.one (.s 6)]) 1])])) .skip))] (pR [pV 3 (.bin .add (.s 3) (pI 1))])))),[]⟩
def c102:Zh Sol.prog fresh sig [.fz,(.mem [(.own 97)]),(.mem [(.own 3)])] [(1,(.mem [(.own 97)])),(2,(.mem [(.own 3)]))] Try.f102=some p102:=by kernel_rfl
end Vm
end
section
namespace Vm
open Go Go.Proofs
def Gr.sm(g:Gr):Prop:=g.nodes.length<=100000/\g.roots.length<=100000/\∀n∈g.nodes,n.ptrs.length<=100000/\n.data.length<=100000
def inR(n:Nat)(p:Int):Bool:=decide (-1<=p/\p<n)
def U5(k:Nat)(n:Nd):Bool:=decide (n.ptrs.length+n.data.length<=255)&&n.ptrs.all (inR k)
def right(g:Gr):Bool:=decide (g.roots.length<=16)&&g.nodes.all (U5 g.nodes.length)&&g.roots.all (inR g.nodes.length)
def TH{α:Type}{p:α->Bool}{l:List α}{i:Nat}{x:α}(h:l[i]?=some x):(l.take (i+1)).all p=((l.take i).all p&&p x):=by
 rw[ZhQ,h,ZkM];simp
def VM{α:Type}{p:α->Bool}{l:List α}{i:Nat}{x:α}(h:l[i]?=some x)(hp:p x=false):l.all p=false:=by
 rw[List.all_eq_false];exact⟨x,Zh2 h,by simp[hp]⟩
def Z22{l:List Int}{ns:List V}{rs:V}(hl:l.length<=100000)(hr:rs.one=true)(ho:oneV rs=some rs):
  VCM Sol.prog 50 [.fz,.mem [.fz,.fz]] [.sl (l.map vi),.agg [.sl ns,rs]] (.tup [.bool (l.all (inR ns.length)),.agg [.sl ns,rs]]):=by
 refine Vd Sol.func50 follows (by kernel_rfl) c50 (by kernel_rfl) ?_;simp[-List.all_eq_true,-List.all_eq_false,p50];refine Ys (λt=>∃i:Nat,i<=l.length/\(l.take i).all (inR ns.length)=true/\t=[.v (.sl (l.map vi)),.m [.sl ns,rs],.v (.bool false),.v (vi i),.v (vi l.length),.no,.no,.v (.sl (l.map vi))]) (λt=>match get t 3 with|.v (.int _ n)=>l.length-n.toNat|_=>0) ?_ ?_
 ·exact⟨0,by simp,by simp,by simp⟩
 ·rintro t ⟨i,hi,hall,rfl⟩;by_cases h:i<l.length
  ·have hx:l[i]?=some l[i]:=ZgV h;simp[-List.all_eq_true,-List.all_eq_false,h];simp(disch:=omega) only[Z7];split
   ·exact VM hx (by simp[inR];omega)
   ·split
    ·exact VM hx (by simp[inR];omega)
    ·refine⟨⟨i+1,by omega,?_,by simp⟩,by omega⟩;rw[TH hx,hall];simp[inR];omega
  ·have:i=l.length:=by omega
   subst this;simp[-List.all_eq_true,-List.all_eq_false];simpa using hall
def Qy{g:Gr}(hg:g.sm):VC Sol.prog 19 false [grV g] (.bool (right g)):=by
 obtain⟨hg1,hg2,hg3⟩:=hg;refine Z9 Sol.func19 follows (by kernel_rfl) c19 rfl ?_;simp[-List.all_eq_true,-List.all_eq_false,p19];split
 ·rename_i h;simp[-List.all_eq_true,-List.all_eq_false,right,show ¬g.roots.length<=16 by omega]
 ·rename_i h;refine Ys (λt=>∃i:Nat,i<=g.nodes.length/\(g.nodes.take i).all (U5 g.nodes.length)=true/\t=[.v (grV g),.m [.sl (g.nodes.map ndV),.sl (g.roots.map vi)],.v (.bool false),.v (.bool false),.no,.v (vi i),.v (vi g.nodes.length),.no,.no,.v (.sl (g.nodes.map ndV))]) (λt=>match get t 5 with|.v (.int _ n)=>g.nodes.length-n.toNat|_=>0) ?_ ?_
  ·exact⟨0,by simp,by simp,by simp[h]⟩
  ·rintro t ⟨i,hi,hall,rfl⟩;by_cases hlt:i<g.nodes.length
   ·have hx:g.nodes[i]?=some g.nodes[i]:=ZgV hlt;obtain⟨h1,h2⟩:=hg3 _ (Zh9 hlt);have hw:=Z7 ((i:Int)+1) (by omega) (by omega);simp[-List.all_eq_true,-List.all_eq_false,hlt,hw];simp(disch:=omega) only[Z7];have hno:U5 g.nodes.length g.nodes[i]=false->right g=false:=λh0=>by simp[-List.all_eq_true,-List.all_eq_false,right,VM hx h0]
    by_cases h3:(g.nodes[i].ptrs.length:Int)+(g.nodes[i].data.length:Int)<=255
    ·rw[if_pos h3];refine ZU (Z22 h1 (by rfl) (by rfl)) ?_;have h3':¬(255:Int)< (g.nodes[i].ptrs.length:Int)+(g.nodes[i].data.length:Int):=by omega
     cases h4:g.nodes[i].ptrs.all (inR g.nodes.length)
     ·simp[-List.all_eq_true,-List.all_eq_false,h3',h4];exact hno (by simp[-List.all_eq_true,-List.all_eq_false,U5,h4])
     ·simp[-List.all_eq_true,-List.all_eq_false,h3',h4,hw];refine⟨⟨i+1,by omega,?_,by simp⟩,by omega⟩;rw[TH hx,hall];simp[-List.all_eq_true,-List.all_eq_false,U5,h4];omega
    ·rw[if_neg h3];exact hno (by simp[-List.all_eq_true,-List.all_eq_false,U5];intro;omega)
   ·have:i=g.nodes.length:=by omega
    subst this;simp[-List.all_eq_true,-List.all_eq_false];refine ZU (Z22 hg2 (by rfl) (by rfl)) ?_;rw[Zi8]at hall;simp[-List.all_eq_true,-List.all_eq_false,right,hall];omega
end Vm
namespace Vm
open Go Go.Proofs
def yX{a b:List Int}(ha:a.length<=100000):VC Sol.prog 54 false [.sl (a.map vi),.sl (b.map vi)] (.bool (decide (a=b))):=by
 refine Z9 Sol.func54 follows (by kernel_rfl) c54 rfl ?_;by_cases hl:a.length=b.length
 ·simp[p54,hl];refine Ys (λt=>∃i:Nat,i<=b.length/\a.take i=b.take i/\t=[.v (.sl (a.map vi)),.v (.sl (b.map vi)),.v (.bool false),.v (.bool false),.v (vi i),.v (vi b.length)]) (λt=>match get t 4 with|.v (.int _ n)=>b.length-n.toNat|_=>0) ?_ ?_
  ·exact⟨0,by simp,by simp,by simp⟩
  ·rintro t ⟨i,hi,heq,rfl⟩;by_cases h:i<b.length
   ·have h':i<a.length:=by omega
    by_cases hx:a[i]=b[i]
    ·simp[h,h',hx];simp(disch:=omega) only[Z7];exact⟨⟨i+1,by omega,X4 heq (by simp[h,h',hx]),by simp⟩,by omega⟩
    ·simp[h,h',hx];exact Z64 (i:=i) (by simp[h,h',hx])
   ·have:i=b.length:=by omega
    subst this;rw[Zi8,Zhq (by omega)]at heq;simp[heq]
 ·simp[p54,show ¬((a.length:Int)=(b.length:Int))by omega];intro e;subst e;exact hl rfl
def Z53{a b:List Int}(ha:a.length<=100000):VC Sol.prog 57 false [.sl (a.map vu),.sl (b.map vu)] (.bool (decide (a=b))):=by
 refine Z9 Sol.func57 follows (by kernel_rfl) c57 rfl ?_;by_cases hl:a.length=b.length
 ·simp[p57,hl];refine Ys (λt=>∃i:Nat,i<=b.length/\a.take i=b.take i/\t=[.v (.sl (a.map vu)),.v (.sl (b.map vu)),.v (.bool false),.v (.bool false),.v (vi i),.v (vi b.length)]) (λt=>match get t 4 with|.v (.int _ n)=>b.length-n.toNat|_=>0) ?_ ?_
  ·exact⟨0,by simp,by simp,by simp⟩
  ·rintro t ⟨i,hi,heq,rfl⟩;by_cases h:i<b.length
   ·have h':i<a.length:=by omega
    by_cases hx:a[i]=b[i]
    ·simp[h,h',hx];simp(disch:=omega) only[Z7];exact⟨⟨i+1,by omega,X4 heq (by simp[h,h',hx]),by simp⟩,by omega⟩
    ·simp[h,h',hx];exact Z64 (i:=i) (by simp[h,h',hx])
   ·have:i=b.length:=by omega
    subst this;rw[Zi8,Zhq (by omega)]at heq;simp[heq]
 ·simp[p57,show ¬((a.length:Int)=(b.length:Int))by omega];intro e;subst e;exact hl rfl
def Z5D{a b:List Int}(ha:a.length<=100000):VC Sol.prog 48 false [.sl (a.map vi),.sl (b.map vi)] (.bool (decide (a=b))):=by
 refine Z9 Sol.func48 follows (by kernel_rfl) c48 rfl ?_;by_cases hl:a.length=b.length
 ·simp[p48,hl];refine Ys (λt=>∃i:Nat,i<=b.length/\a.take i=b.take i/\t=[.v (.sl (a.map vi)),.v (.sl (b.map vi)),.v (.bool false),.v (.bool false),.v (vi i)]) (λt=>match get t 4 with|.v (.int _ n)=>b.length-n.toNat|_=>0) ?_ ?_
  ·exact⟨0,by simp,by simp,by simp⟩
  ·rintro t ⟨i,hi,heq,rfl⟩;by_cases h:i<b.length
   ·have h':i<a.length:=by omega
    by_cases hx:a[i]=b[i]
    ·simp[h,h',hx];simp(disch:=omega) only[Z7];exact⟨⟨i+1,by omega,X4 heq (by simp[h,h',hx]),by simp⟩,by omega⟩
    ·simp[h,h',hx];exact Z64 (i:=i) (by simp[h,h',hx])
   ·have:i=b.length:=by omega
    subst this;rw[Zi8,Zhq (by omega)]at heq;simp[heq]
 ·simp[p48,show ¬((a.length:Int)=(b.length:Int))by omega];intro e;subst e;exact hl rfl
def jv{m n:Nd}(h1:m.ptrs.length<=100000)(h2:m.data.length<=100000):VC Sol.prog 56 false [ndV m,ndV n] (.bool (decide (m=n))):=by
 refine Z9 Sol.func56 follows (by kernel_rfl) c56 rfl ?_;simp[p56];refine Z1 (yX h1) (by simp) ?_;by_cases hp:m.ptrs=n.ptrs
 ·simp[hp];refine Z1 (Z53 h2) (by simp) ?_;simp;cases m;cases n;simp at hp;simp[hp]
 ·simp[hp];intro e;exact hp (by rw[e])
def yW{a b:List Nd}(ha:a.length<=100000)(hs:∀n∈a,n.ptrs.length<=100000/\n.data.length<=100000):VC Sol.prog 55 false [.sl (a.map ndV),.sl (b.map ndV),.fn 56] (.bool (decide (a=b))):=by
 refine Z9 Sol.func55 follows (by kernel_rfl) c55 rfl ?_;by_cases hl:a.length=b.length
 ·simp[p55,hl];refine Ys (λt=>∃i:Nat,i<=b.length/\a.take i=b.take i/\t=[.v (.sl (a.map ndV)),.v (.sl (b.map ndV)),.v (.fn 56),.v (.bool false),.v (.bool false),.v (vi i),.v (vi b.length),.no,.no,.no,.v (.sl (a.map ndV))]) (λt=>match get t 5 with|.v (.int _ n)=>b.length-n.toNat|_=>0) ?_ ?_
  ·exact⟨0,by simp,by simp,by simp⟩
  ·rintro t ⟨i,hi,heq,rfl⟩;by_cases h:i<b.length
   ·have h':i<a.length:=by omega
    obtain⟨s1,s2⟩:=hs _ (Zh9 h');simp[h,h']
    first|refine ZU (Z7f (jv (m:=a[i]) (n:=b[i]) s1 s2)) ?_ |refine Z1 (jv (m:=a[i]) (n:=b[i]) s1 s2) (by simp) ?_
    by_cases hx:a[i]=b[i]
    ·simp[hx];simp(disch:=omega) only[Z7];exact⟨⟨i+1,by omega,X4 heq (by simp[h,h',hx]),by simp⟩,by omega⟩
    ·simp[hx];exact Z64 (i:=i) (by simp[h,h',hx])
   ·have:i=b.length:=by omega
    subst this;rw[Zi8,Zhq (by omega)]at heq;simp[heq]
 ·simp[p55,show ¬((a.length:Int)=(b.length:Int))by omega];intro e;subst e;exact hl rfl
end Vm
namespace Vm
open Go Go.Proofs
def upto(n:Nat):List V:=(List.range n).map λ(i:Nat)=>vi i
def atM(id:Nat)(l:List Int):V:=.mp id (l.map vi) (upto l.length)
def ZP:List Int->List Int->List Int
 |acc,[]=>acc
 |acc,x::l=>ZP (if 0<=x/\x∉acc then acc++[x]else acc) l
def zi{x:Int}:∀ {l:List Int},Kw (vi x) (l.map vi)=some (l.findIdx? (· ==x))
 | []=>rfl
 |y::l=>by
  simp only[Zho,Kw,Z5F,ZhC,ZjF];by_cases h:x=y
  ·subst h;simp
  ·have h2:(x==y)=false:=by simpa using h
   have h3:(y==x)=false:=by simpa using ZiY h
   simp[h2,h3,zi]
def Wr{x:Int}{l:List Int}:l.findIdx? (· ==x)=none↔x∉l:=by
 rw[Zkl];constructor
 ·intro h hm;have:=h x hm;simp at this
 ·intro h y hy;simp;intro e;subst e;exact h hy
def Z9l{id:Nat}{l:List Int}{x:Int}{z:V}{ok:Bool}:lkV (.i .i64) (atM id l) (vi x) z ok=match l.findIdx? (· ==x)with
  |some i=>some (if ok then .tup [vi i,.bool true]else vi i)
  |none=>some (if ok then .tup [z,.bool false]else z):=by
 unfold lkV atM;simp only[isK,ZjQ,ZjE,ZhE,zi];cases h:l.findIdx? (· ==x)with
 |none=>rfl
 |some i=>
  have hlt:i<l.length:=by
   have:=ZhJ.1 h;exact this.1
  simp[upto,hlt]
def Z8b{id:Nat}{l:List Int}{x:Int}(hx:x∉l):JB (.i .i64) (atM id l) (vi x) (vi l.length)=some (atM id (l++[x])):=by
 unfold JB atM;simp only[isK,ZjQ,ZjE,ZhE,zi,Wr.2 hx];simp[upto,Zj1]
@[simp] theorem Zfu(id:Nat)(l:List Int):oneV (atM id l)=some (atM id l):=rfl
def qV{ns acc:List Int}{id:Nat}(hns:ns.length<=100000)(hacc:acc.length<=1000000):VCM Sol.prog 102 [.fz,.mem [.own 97],.mem [.own 3]] [.sl (ns.map vi),.agg [atM id acc],.agg [.sl (acc.map vi)]]
  (.tup [.tup [],.agg [atM id (ZP acc ns)],.agg [.sl ((ZP acc ns).map vi)]]):=by
 refine Vd Sol.func102 follows (by kernel_rfl) c102 (by kernel_rfl) ?_;simp[p102];refine Ys (λt=>∃i l,i<=ns.length/\ZP l (ns.drop i)=ZP acc ns/\l.length<=1000000+i/\t=[.v (.sl (ns.map vi)),.m [atM id l],.m [.sl (l.map vi)],.v (vi (i:Nat)),.v (vi ns.length),.no,.no,.v (.sl (ns.map vi))]) (λt=>match get t 3 with|.v (.int _ n)=>ns.length-n.toNat|_=>0) ?_ ?_
 ·exact⟨0,acc,by simp,by simp,by omega,by simp⟩
 ·rintro t ⟨i,l,hi,hn,hl,rfl⟩;by_cases h:i<ns.length
  ·have hd:ns.drop i=ns[i]::ns.drop (i+1):=(ZhR h);rw[hd,ZP]at hn;simp[h,Z9l];by_cases hm:ns[i]∈l
   ·have hsome:∃j,l.findIdx? (· ==ns[i])=some j:=by
     cases hj:l.findIdx? (· ==ns[i])with
     |none=>exact absurd hm (Wr.1 hj)
     |some j=>exact⟨j,rfl⟩
    obtain⟨j,hj⟩:=hsome;simp[hj,flV,V.flatc];simp(disch:=omega) only[Z7];rw[if_neg (by simp[hm])]at hn;exact⟨⟨i+1,by omega,l,hn,by omega,rfl,rfl,by simp⟩,by omega⟩
   ·simp[Wr.2 hm,flV,V.flatc];simp(disch:=omega) only[Z7];by_cases h0:0<=ns[i]
    ·rw[if_pos h0,Z8b hm];rw[if_pos ⟨h0,hm⟩]at hn;simp;refine⟨by simp[lim];omega,⟨i+1,by omega,l++[ns[i]],hn,by simp;omega,rfl,by simp,by simp⟩,by omega⟩
    ·rw[if_neg h0];rw[if_neg (by simp[h0])]at hn;exact⟨⟨i+1,by omega,l,hn,by omega,rfl,rfl,by simp⟩,by omega⟩
  ·have:i=ns.length:=by omega
   subst this;simp[ZP]at hn;subst hn;simp
@[simp] theorem Zeq(id:Nat)(l:List Int):(atM id l).cells=[atM id l]:=rfl
def Good(n:Nat)(l:List Int):Prop:=l.Nodup/\∀x∈l,0<=x/\x<n
def zL:∀(n:Nat) {l:List Int},l.Nodup->(∀x∈l,0<=x/\x<n)->l.length<=n
 |0,l,_,h=>by
  cases l with
  |nil=>simp
  |cons x l=>have:=h x (by simp);omega
 |n+1,l,hn,h=>by
  by_cases hm:(n:Int)∈l
  ·have h1:=zL n (hn.erase (n:Int)) λx hx=>by
    have hx':=(hn.mem_erase_iff).1 hx;have:=h x hx'.2;omega
   rw[List.length_erase_of_mem hm]at h1;omega
  ·have:=zL n hn λx hx=>by
    have h1:=h x hx;have:x≠n:=λe=>hm (e▸hx);omega
   omega
def Good.len{n:Nat}{l:List Int}(h:Good n l):l.length<=n:=zL n h.1 h.2
def Yv{n:Nat}:∀ {ns acc:List Int},Good n acc->(∀x∈ns,x<n)->Good n (ZP acc ns)
 | [],acc,h,_=>h
 |x::ns,acc,h,hx=>by
  simp only[ZP];refine Yv ?_ λy hy=>hx y (by simp[hy]);split
  ·rename_i hc;refine⟨?_,λy hy=> ?_⟩
   ·rw[ZjO];exact⟨h.1,by simp,λa ha b hb=>by simp at hb;subst hb;exactλe=>hc.2 (e▸ha)⟩
   ·rcases Zhn.1 hy with hy|hy
    ·exact h.2 y hy
    ·simp at hy;subst hy;exact⟨hc.1,hx _ (by simp)⟩
  ·exact h
def Yy(g:Gr):Nat->Nat->List Int->List Int
 |0,_,l=>l
 |f+1,i,l=>match l[i]? with
  |some x=>Yy g f (i+1) (ZP l ((g.nodes[x.toNat]?).getD default).ptrs)
  |none=>l
def order(g:Gr):List Int:=Yy g (g.nodes.length+1) 0 (ZP [] g.roots)
def Z9j{n:Nat}{p:Int}(h:inR n p=true): -1<=p/\p<n:=by simpa[inR]using h
def Y1{g:Gr}(hr:right g=true):∀x∈g.roots,-1<=x/\x<g.nodes.length:=by
 simp only[right,ZgY,Zh5]at hr;exactλx hx=>Z9j (hr.2 x hx)
def XR{g:Gr}(hr:right g=true):∀n∈g.nodes,∀x∈n.ptrs,-1<=x/\x<g.nodes.length:=by
 simp only[right,ZgY,Zh5,U5]at hr;exactλn hn x hx=>Z9j ((hr.1.2 n hn).2 x hx)
def Z8m{g:Gr}(hg:g.sm)(hr:right g=true)(id:Nat)(ks vs:List V):
  wpS Sol.prog p80.body [.v (grV g),.v (.mp id ks vs)] (λs=>get s 4=.v (.sl ((order g).map vi))/\get s 3=.m [atM id (order g)]) (λ_ _=>False) (λs=>get s 4=.v (.sl ((order g).map vi))/\get s 3=.m [atM id (order g)]):=by
 obtain⟨hg1,hg2,hg3⟩:=hg;simp[p80];refine ZU (qV (ns:=g.roots) (acc:=[]) (id:=id) hg2 (by simp)) ?_;simp;have hroots:=Y1 hr;have hgood:Good g.nodes.length (ZP [] g.roots):=Yv ⟨by simp,by simp⟩ λx hx=>(hroots x hx).2;refine Ys (λt=>∃i l,i<=l.length/\Good g.nodes.length l/\Yy g (g.nodes.length+1-i) i l=order g/\t=[.v (grV g),.no,.m [.sl (g.nodes.map ndV),.sl (g.roots.map vi)],.m [atM id l],.v (.sl []),.m [.sl (l.map vi)],.no,.v (vi (i:Nat))]) (λt=>match get t 7 with|.v (.int _ n)=>g.nodes.length-n.toNat|_=>0) ?_ ?_
 ·exact⟨0,_,by simp,hgood,rfl,by simp⟩
 ·rintro t ⟨i,l,hi,hl,ho,rfl⟩;have hlen:=hl.len;by_cases h:i<l.length
  ·obtain⟨x0,x1⟩:=hl.2 _ (Zh9 h);obtain⟨k,hk⟩:=Zhf x0;have hkl:k<g.nodes.length:=by omega
   have hx:l[i]?=some (k:Int):=by rw[ZgV h,hk]
   simp[h,hk,hkl];refine ZU (qV (hg3 _ (Zh9 hkl)).1 (by omega)) ?_;simp;simp(disch:=omega) only[Z7];have hgood':Good g.nodes.length (ZP l g.nodes[k].ptrs):=Yv hl λx hx=>(XR hr _ (Zh9 hkl) x hx).2;refine⟨⟨i+1,_,?_,hgood',?_,rfl,rfl,by simp⟩,by omega⟩
   ·have:∀ {ns acc:List Int},acc.length<=(ZP acc ns).length:=by
     intro ns
     induction ns with
     |nil=>intro acc;simp[ZP]
     |cons y ns ih=>
      intro acc;simp only[ZP];refine Zhr ?_ ih;split<;>simp
    exact Zhr h this
   ·rw[show g.nodes.length+1-i=(g.nodes.length+1- (i+1))+1 by omega,Yy,hx]at ho;simpa[hkl]using ho
  ·have:i=l.length:=by omega
   subst this
   have hol:l=order g:=by
    rw[<-ho];cases hf:g.nodes.length+1-l.length with
    |zero=>omega
    |succ f=>simp[Yy]
   subst hol;simp
def Z6l{g:Gr}(hg:g.sm)(hr:right g=true)(id:Nat)(ks vs:List V):VCM Sol.prog 80 [.fz,.own 97] [grV g,.mp id ks vs] (.tup [.sl ((order g).map vi),atM id (order g)]):=by
 refine⟨by kernel_rfl,λB w h us hok hA=> ?_⟩;obtain⟨hA1,hA2,hA3⟩:=hA;obtain⟨tk1,ht1,hr1⟩:=hA3 1 (.own 97) (.mp id ks vs) rfl rfl;simp only[argK,ZgT]at ht1;subst ht1;obtain⟨x1,hx1,hown⟩:=hr1;simp only[eval,ZgT]at hx1;subst hx1;rcases hown with ⟨_,_,hl,_⟩|⟨id',ks',vs',b,es,clk,he,hv,hbl,hB,hid,hh,h1,h2,h3,h4⟩
 ·cases hl
 cases he
 have hA':RelA Sol.prog B w h [.fz,.own 97] [grV g,.mp (b+1) ks vs] us:=by
  refine⟨rfl,hA2,λi k x hk hx=> ?_⟩
  match i,hk,hx with
  |0,hk,hx=>exact hA3 0 k x hk hx
  |1,hk,hx=>
   simp at hk hx;subst hk hx;exact⟨_,rfl,_,rfl,.inr ⟨b+1,ks,vs,b,es,clk,rfl,hv,hbl,hB,.inr rfl,hh,h1,h2,h3,h4⟩⟩
  |i+2,hk,hx=>simp at hk
 refine Z24 (cf:=p80) (fin:=[(3,.mem [.own 97])]) (xs:=[grV g,.mp (b+1) ks vs]) (Rt:=λs=>get s 4=.v (.sl ((order g).map vi))/\get s 3=.m [atM (b+1) (order g)]) Sol.func80 follows c80 (Z8m hg hr (b+1) ks vs) hok hA' λc s S a w' h' hP hix hix2 hres hRt hrel hnil hK hfrm hfin=> ?_;rw[<-hP]at hfin hres⊢;simp only[j3,ZgY,Zh5]at hfin;obtain⟨hfin1,hle⟩:=hfin;obtain⟨hrel2,hnil2⟩:=TF hrel hnil hle;have hix3:c.ix 3=3:=hix2 3 (by decide)
 have hr:resV s (Z6E c.P c.ix Try.f80)=some (.sl ((order g).map vi)):=by
  rw[<-hres];simp[p80,hRt.1]
 obtain⟨v,hv',hvr⟩:=V8 (D:=(h'.drop (Tm S [(3,.mem [.own 97])])).F) hrel hnil (λb hb=>.inl hb) (λq hq=>by
  have h1:=hfin1 q hq;have h2:=Zh5.1 (show Z2z Try.f80 [(3,.mem [.own 97])]=true by kernel_rfl) q hq;refine⟨h1,λi b hb=>.inr ⟨Uh q,i+1,?_,by omega,hb⟩⟩;unfold Tm;rw[Zko.1 h2];cases S.at (Uh q)with
  |none=>rfl
  |some k=>cases k<;>rfl) hr
 obtain⟨u,hu,b3,us3,T3,e1,e2,e3,e4,e5⟩:=hrel2.at_ 3 (by rw[Zk];exact Zb s c) (by rw[Zk];rfl);obtain⟨X,hX,hown2⟩:=e5 0 (.own 97,.m (c.ix 3) 0) rfl
 have hXe:X=atM (b+1) (order g):=by
  simp only[eval,hix3,hRt.2]at hX;simpa using hX.symm
 subst hXe;rcases hown2 with ⟨_,_,hl,_⟩|⟨id2,ks2,vs2,b2,es2,clk2,he2,hv2,hbl2,hB2,hid2,hh2,q1,q2,q3,q4⟩
 ·cases hl
 simp only[atM,V.mp.injEq]at he2;obtain⟨rfl,rfl,rfl⟩:=he2;have hbb:b2=b:=by omega
 subst hbb;obtain⟨r1,r2,r3⟩:=hrel2.ok.b_lt 3 1 b2 hbl2
 refine⟨v,hv',v,.sl ((order g).map vi),[.bool false,atM id (order g)],{F:=(h'.drop (Tm S [(3,.mem [.own 97])])).F,bl:=λt i=>if t=1/\i=1 then some b2 else none,K:=h'.K},rfl,hfrm.below,hfrm.same,
  ⟨hrel2.ok.base,hrel2.ok.f_lt,hrel2.ok.f_or,hrel2.ok.g_F,λt i x hx=> ?_,λt i t' i' x hx hx'=> ?_,hrel2.ok.k_lt,λt i x hx=> ?_,hrel2.ok.k_F⟩,hK,hvr,⟨rfl,λi k y hk hkz hy=> ?_⟩,rfl⟩
 ·simp only at hx;split at hx
  ·simp only[ZgT]at hx;subst hx;exact⟨r1,r2,r3⟩
  ·cases hx
 ·simp only at hx hx';split at hx<;>split at hx'<;>first|(cases hx;done)|(cases hx';done)|skip
  rename_i c1 c2;exact⟨c1.1.trans c2.1.symm,c1.2.trans c2.2.symm⟩
 ·simp only at hx;split at hx
  ·simp only[ZgT]at hx;subst hx;exact hrel2.ok.k_bl 3 1 b2 hbl2
  ·cases hx
 ·match i,hk,hy with
  |0,hk,hy=>simp at hk;exact absurd hk.symm hkz
  |1,hk,hy=>
   simp at hk hy;subst hk hy;exact⟨_,rfl,_,rfl,.inr ⟨id,_,_,b2,es2,clk2,rfl,hv,by simp,hB,hid,hh2,q1,q2,q3,q4⟩⟩
  |i+2,hk,hy=>simp at hk
end Vm
namespace Vm
open Go Go.Proofs
def at0(l:List Int)(p:Int):Int:=match l.findIdx? (· ==p)with
 |some i=>(i:Nat)
 |none=>0
def X9(l ps:List Int):List Int:=ps.map λp=>if 0<=p then at0 l p else p
def Te(g:Gr)(l:List Int)(x:Int):Nd:=let n:=(g.nodes[x.toNat]?).getD default;⟨X9 l n.ptrs,n.data⟩
def Yn(g:Gr):Gr:=⟨(order g).map (Te g (order g)),X9 (order g) g.roots⟩
def Zaq{id:Nat}{l:List Int}{x:Int}:lkV (.i .i64) (atM id l) (vi x) (vi 0) false=some (vi (at0 l x)):=by
 rw[Z9l];unfold at0;cases l.findIdx? (· ==x)<;>simp
def Za6{l:List Int}:∀c∈flat (l.map vi),c.flatc=true:=by
 intro c hc;simp only[flat,Ziw,Zh8]at hc;obtain⟨y,⟨a,_,rfl⟩,hc⟩:=hc;have:c=vi a:=by simpa[V.cells]using hc
 subst this;rfl
def Z2k{ps l:List Int}{id:Nat}(hp:ps.length<=100000):VC Sol.prog 81 true [.sl (ps.map vi),atM id l] (.sl ((X9 l ps).map vi)):=by
 refine Z8V (t:=4) (ty:=3) Sol.func81 follows (by kernel_rfl) rfl c81 rfl Za6 ?_;simp[p81];refine Ys (λt=>∃i:Nat,i<=ps.length/\t=[.v (.sl (ps.map vi)),.v (atM id l),.v (.sl []),.v (.sl ((X9 l (ps.take i)).map vi)),.v (vi i),.v (vi ps.length),.no,.no,.v (.sl (ps.map vi))]) (λt=>match get t 4 with|.v (.int _ n)=>ps.length-n.toNat|_=>0) ?_ ?_
 ·exact⟨0,by simp,by simp[X9]⟩
 ·rintro t ⟨i,hi,rfl⟩;by_cases h:i<ps.length
  ·have hx:ps[i]?=some ps[i]:=ZgV h
   have hstep:X9 l (ps.take (i+1))=X9 l (ps.take i)++[if 0<=ps[i]then at0 l ps[i]else ps[i]]:=by
    unfold X9;rw[ZhQ,hx,Zif];rfl
   have hlen:(X9 l (ps.take i)).length<=100000:=by simp[X9];omega
   simp[h];simp(disch:=omega) only[Z7];by_cases h0:0<=ps[i]
   ·simp[h0,Zaq];refine⟨by simp[lim];omega,⟨i+1,by omega,by rw[hstep];simp[h0],by simp⟩,by omega⟩
   ·simp[h0];refine⟨by simp[lim];omega,⟨i+1,by omega,by rw[hstep];simp[h0],by simp⟩,by omega⟩
  ·have:i=ps.length:=by omega
   subst this;simp
def JG{g:Gr}(hr:right g=true):∀ {f i:Nat} {l:List Int},Good g.nodes.length l->Good g.nodes.length (Yy g f i l)
 |0,i,l,h=>h
 |f+1,i,l,h=>by
  simp only[Yy];split
  ·rename_i x hx;refine JG hr (Yv h λy hy=> ?_);obtain⟨x0,x1⟩:=h.2 x (Zh2 hx);have hlt:x.toNat<g.nodes.length:=by omega
   rw[ZgV hlt]at hy;exact(XR hr _ (Zh9 hlt) y hy).2
  ·exact h
def X3{g:Gr}(hr:right g=true):Good g.nodes.length (order g):=
 JG hr (Yv ⟨by simp,by simp⟩ λx hx=>(Y1 hr x hx).2)
def J1{g:Gr}(hg:g.sm)(hr:right g=true)(id:Nat)(ks vs:List V):VCM Sol.prog 47 [.fz,.own 97] [grV g,.mp id ks vs] (.tup [grV (Yn g),atM id (order g)]):=by
 refine Vd Sol.func47 follows (by kernel_rfl) c47 (by kernel_rfl) ?_;simp[p47];refine ZU (Z6l hg hr id ks vs) ?_;simp;obtain⟨hg1,hg2,hg3⟩:=hg;have hgood:=X3 hr;have hlen:=hgood.len;generalize ho:order g=l at hgood hlen;refine Ys (λt=>∃i:Nat,i<=l.length/\t=[.v (grV g),.v (atM id l),.m [.sl (g.nodes.map ndV),.sl (g.roots.map vi)],.m [.sl [],.sl []],.m [.sl (((l.take i).map (Te g l)).map ndV),.sl []],.v (vi i),.v (vi l.length),.no,.no,.v (.sl (l.map vi))]) (λt=>match get t 5 with|.v (.int _ n)=>l.length-n.toNat|_=>0) ?_ ?_
 ·exact⟨0,by simp,by simp⟩
 ·rintro t ⟨i,hi,rfl⟩;by_cases h:i<l.length
  ·have hx:l[i]?=some l[i]:=ZgV h;obtain⟨x0,x1⟩:=hgood.2 _ (Zh9 h);obtain⟨k,hk⟩:=Zhf x0;have hkl:k<g.nodes.length:=by omega
   obtain⟨s1,s2⟩:=hg3 _ (Zh9 hkl);simp[h,hk,hkl];refine Z1 (Z2k s1) (by simp) ?_;simp;simp(disch:=omega) only[Z7]
   have hnd:V.agg [V.sl (List.map vi (X9 l g.nodes[k].ptrs)),V.sl (List.map vu g.nodes[k].data)]=ndV (Te g l l[i]):=by
    simp[Te,hk,hkl,ndV]
   refine⟨by simp[lim];omega,by simp[lim];omega,⟨i+1,by omega,?_,by simp⟩,by omega⟩;rw[ZhQ,Zhd,hx,hnd];rfl
  ·have:i=l.length:=by omega
   subst this;simp;refine Z1 (Z2k hg2) (by simp) ?_;simp;simp[Yn,grV,ho]
def Z1O{g:Gr}(hg:g.sm)(hr:right g=true):(Yn g).sm:=by
 obtain⟨hg1,hg2,hg3⟩:=hg;have hgood:=X3 hr;have hlen:=hgood.len;refine⟨by simp[Yn];omega,by simpa[Yn,X9]using hg2,λn hn=> ?_⟩;simp only[Yn,Zh8]at hn;obtain⟨x,hx,rfl⟩:=hn;obtain⟨x0,x1⟩:=hgood.2 x hx;have hlt:x.toNat<g.nodes.length:=by omega
 have:=hg3 _ (Zh9 hlt);simpa[Te,hlt,X9]using this
def noGr:Gr:=⟨[],[]⟩
def XA(g:Gr):V:=if right g=true then .tup [grV (Yn g),vi 0]else .tup [grV noGr,vi 1]
def Z1D{g:Gr}(hg:g.sm):VC Sol.prog 17 false [grV g] (XA g):=by
 refine Z9 Sol.func17 follows (by kernel_rfl) c17 rfl ?_;simp[p17];refine Z1 (Qy hg) (by simp) ?_;cases hr:right g
 ·simp[XA,hr,noGr,grV]
 ·simp;refine ZU (J1 hg hr 0 [] []) ?_;simp[XA,hr];simp[grV]
def yq(a b:Gr):Bool:=right a&&right b&&decide (Yn a=Yn b)
def Z7o{a b:Gr}(ha:a.sm)(hb:b.sm):VC Sol.prog 24 false [grV a,grV b] (.bool (yq a b)):=by
 refine Z9 Sol.func24 follows (by kernel_rfl) c24 rfl ?_;simp[p24];refine Z1 (Qy ha) (by simp) ?_;cases hra:right a
 ·simp[yq,hra]
 ·simp;refine Z1 (Qy hb) (by simp) ?_;cases hrb:right b
  ·simp[yq,hrb]
  ·simp;refine ZU (J1 ha hra 0 [] []) ?_;simp;refine ZU (J1 hb hrb 0 _ _) ?_;have hsa:=Z1O ha hra;simp;refine Z1 (yX hsa.2.1) (by simp) ?_;by_cases h:(Yn a).roots=(Yn b).roots
   ·simp[h];refine Z1 (yW hsa.1 hsa.2.2) (by simp) ?_;simp[yq,hra,hrb];generalize Yn a=x at h;generalize Yn b=y at h;cases x;cases y;simp at h;simp[h]
   ·simp[h,yq,hra,hrb];intro e;exact h (by rw[e])
def Z9N{a b:Gr}(ha:a.sm):VC Sol.prog 18 false [grV a,grV b] (.bool (decide (a=b))):=by
 refine Z9 Sol.func18 follows (by kernel_rfl) c18 rfl ?_;obtain⟨h1,h2,h3⟩:=ha;simp[p18];refine Z1 (Z5D h2) (by simp) ?_;by_cases hr:a.roots=b.roots
 ·simp[hr];by_cases hl:a.nodes.length=b.nodes.length
  ·simp[hl];refine Ys (λt=>∃i:Nat,i<=b.nodes.length/\a.nodes.take i=b.nodes.take i/\t=[.v (grV a),.v (grV b),.m [.sl (a.nodes.map ndV),.sl (a.roots.map vi)],.m [.sl (b.nodes.map ndV),.sl (b.roots.map vi)],.v (.bool false),.v (.bool true),.v (.bool false),.v (vi i)]) (λt=>match get t 7 with|.v (.int _ n)=>b.nodes.length-n.toNat|_=>0) ?_ ?_
   ·exact⟨0,by simp,by simp,by simp[hr]⟩
   ·rintro t ⟨i,hi,heq,rfl⟩;by_cases h:i<b.nodes.length
    ·have h':i<a.nodes.length:=by omega
     obtain⟨s1,s2⟩:=h3 _ (Zh9 h');simp[h,h',hl];refine Z1 (Z5D s1) (by simp) ?_;simp[h,h',hl];refine Z1 (ZaC (Zhr s2 (by omega))) (by simp) ?_;by_cases hp:a.nodes[i].ptrs=b.nodes[i].ptrs
     ·by_cases hd:a.nodes[i].data=b.nodes[i].data
      ·simp[hp,hd];simp(disch:=omega) only[Z7]
       have hx:a.nodes[i]=b.nodes[i]:=by
        generalize a.nodes[i]=x at hp hd;generalize b.nodes[i]=y at hp hd;cases x;cases y;simp at hp hd;simp[hp,hd]
       exact⟨⟨i+1,by omega,X4 heq (by simp[h,h',hx]),by simp⟩,by omega⟩
      ·simp[hp,hd];intro e;subst e;exact hd rfl
     ·simp[hp];intro e;subst e;exact hp rfl
    ·have:i=b.nodes.length:=by omega
     subst this;rw[Zi8,Zhq (by omega)]at heq;simp[hl];cases a;cases b;simp at heq hr;simp[heq,hr]
  ·simp[show ¬((a.nodes.length:Int)=(b.nodes.length:Int))by omega];intro e;subst e;exact hl rfl
 ·simp[hr];intro e;subst e;exact hr rfl
end Vm
namespace Vm
open Go Go.Proofs
end Vm
end
section
namespace Vm
open Go Go.Proofs
def g0:Gr:=⟨[⟨[],[]⟩,⟨[],[4]⟩,⟨[1],[]⟩,⟨[],[]⟩],[2,0]⟩
def g1:Gr:=⟨[],[0]⟩
def g2:Gr:=⟨[],[-1,-1]⟩
end Vm
end
section

end
section
namespace Vm
open Go Go.Proofs
def Zd2(l:List Nd)(roots:List Int):(mkG l roots).sm:=by
 obtain⟨h1,h2,h3⟩:=WV l roots;refine⟨by rw[WW];omega,by omega,λx hx=> ?_⟩;have:=h3 x hx;omega
def Jz(l:List Nd)(roots:List Int):right (mkG l roots)=true:=by
 obtain⟨h1,h2,h3⟩:=WV l roots;simp only[right,ZgY,Zh5,Zhc,U5];rw[WW];refine⟨⟨by omega,λx hx=>⟨by have:=h3 x hx;omega,λp hp=> ?_⟩⟩,λp hp=> ?_⟩
 ·simp only[mkG,Zh8]at hx;obtain⟨y,_,rfl⟩:=hx;simp only[mkNd,Zh8]at hp;obtain⟨q,_,rfl⟩:=hp;simpa[inR]using Z8B
 ·simp only[mkG]at hp;split at hp
  ·simp at hp;subst hp;simp[inR];omega
  ·simp only[Zh8]at hp;obtain⟨q,_,rfl⟩:=hp;simpa[inR]using Z8B
def outs(g:Gr)(x:Int):List Int:=((g.nodes[x.toNat]?).getD default).ptrs
def RR:∀(a:List Int) {acc b:List Int},ZP acc (a++b)=ZP (ZP acc a) b
 | [],_,_=>rfl
 |x::a,acc,b=>by simp only[Zi7,ZP];exact RR a
def Sf:∀(l:List Int) {acc:List Int},∃t,ZP acc l=acc++t
 | [],acc=>⟨[],by simp[ZP]⟩
 |x::l,acc=>by
  simp only[ZP];obtain⟨t,ht⟩:=Sf l (acc:=if 0<=x/\x∉acc then acc++[x]else acc);rw[ht];split
  ·exact⟨x::t,by simp⟩
  ·exact⟨t,rfl⟩
def We:∀ {l acc:List Int} {x:Int},x∈ZP acc l↔x∈acc\/(x∈l/\0<=x)
 | [],acc,x=>by simp[ZP]
 |y::l,acc,x=>by
  simp only[ZP,We (l:=l),Zhe];split
  ·rename_i h;simp only[Zhn,ZhU];constructor
   ·rintro((h1|rfl)|h1)
    ·exact .inl h1
    ·exact .inr ⟨.inl rfl,h.1⟩
    ·exact .inr ⟨.inr h1.1,h1.2⟩
   ·rintro(h1|⟨rfl|h1,h2⟩)
    ·exact .inl (.inl h1)
    ·exact .inl (.inr rfl)
    ·exact .inr ⟨h1,h2⟩
  ·rename_i h;constructor
   ·rintro(h1|h1)
    ·exact .inl h1
    ·exact .inr ⟨.inr h1.1,h1.2⟩
   ·rintro(h1|⟨rfl|h1,h2⟩)
    ·exact .inl h1
    ·exact .inl (by by_cases hx:x∈acc;exact hx;exact(h ⟨h2,hx⟩).elim)
    ·exact .inr ⟨h1,h2⟩
def VZ{g:Gr}(hr:right g=true)(x:Int):∀y∈outs g x,-1<=y/\y<g.nodes.length:=by
 intro y hy;unfold outs at hy;cases hn:g.nodes[x.toNat]? with
 |none=>rw[hn]at hy;cases hy
 |some n=>rw[hn]at hy;exact XR hr n (Zh2 hn) y hy
def RS{g:Gr}(hr:right g=true):∀ {f i:Nat} {l:List Int},Good g.nodes.length l->i<=l.length->g.nodes.length<f+i->l=ZP [] (g.roots++(l.take i).flatMap (outs g))->
  Yy g f i l=ZP [] (g.roots++(Yy g f i l).flatMap (outs g))
 |0,i,l,hg,hi,hf,hl=>by have:=hg.len;omega
 |f+1,i,l,hg,hi,hf,hl=>by
  simp only[Yy];cases hx:l[i]? with
  |none=>
   have:l.length<=i:=by simpa using hx
   rw[Zhq this]at hl;exact hl
  |some x=>
   have hil:i<l.length:=by
    rcases ZkT i l.length with h|h
    ·exact h
    ·rw[ZhT h]at hx;cases hx
   obtain⟨t,ht⟩:=Sf (outs g x) (acc:=l);refine RS hr (Yv hg λy hy=>(VZ hr x y hy).2) ?_ (by omega) ?_
   ·show i+1<=(ZP l (outs g x)).length;rw[ht,Zib];omega
   ·show ZP l (outs g x)=ZP [] (g.roots++((ZP l (outs g x)).take (i+1)).flatMap (outs g));rw[ht,List.take_append_of_le_length (by omega),ZhQ,hx,<-ht];simp only[ZiL,Option.toList,<-ZhZ];rw[RR,<-hl];simp
def JH{g:Gr}(hr:right g=true):order g=ZP [] (g.roots++(order g).flatMap (outs g)):=by
 refine RS hr (Yv ⟨List.nodup_nil,by simp⟩ λy hy=>(Y1 hr y hy).2) (Zia _) (by omega) ?_;simp
end Vm
end
section
namespace Vm
open Go
open Go.Proofs
def p21:Fn:=⟨10,[0,1,2,8,3,12,11,13,5,10],
pQ [pR [(1,pS 0 2),pV 2 (pI 0)],pQ [pC [pK 10 19 [.mm 1 0 2]] [pV 3 (.un .not (.s 10))]] (.cond (.s 3) (pQ [pR [pV 2 (pI 0)]] .ret) .skip),pR [pV 4 (pI 0)],pQ [pR [pV 5 (pI 0),pV 6 (.len (.m 1 0)),pV 9 (.m 1 0)]] (.block 0 (.loop [0,1,2,3,4,5,6,9] (pQ [pR [pV 7 (.bin .lss (.s 5) (.s 6))],.cond (.s 7) .skip (.exit 0),.block 1 (pQ [pR [(8,pM (.flds (.idx (.s 9) (.s 5) 2) 0 2) 2)]] (pR [pV 4 (.bin .add (.s 4) (.bin .add (.bin .add (pI 1) (.len (.m 8 0))) (.len (.m 8 1))))]))] (pR [pV 5 (.bin .add (.s 5) (pI 1))])))),pR [pV 2 (.s 4)]] .ret,[(2,.v)]⟩
def c21:Zh Sol.prog fresh sig [.fz] [] Try.f21=some p21:=by kernel_rfl
end Vm
end
section
namespace Vm
open Go Go.Proofs
def ndW(n:Nd):Nat:=1+n.ptrs.length+n.data.length
def wsum(l:List Nd):Nat:=(l.map ndW).sum
def words(g:Gr):Nat:=if right g=true then wsum g.nodes else 0
def Z7l{l:List Nd}{i:Nat}{x:Nd}(h:l[i]?=some x):wsum (l.take (i+1))=wsum (l.take i)+ndW x:=by
 unfold wsum;rw[ZhQ,h,Zif,List.sum_append];simp
def Zbg{l:List Nd}(h:∀n∈l,n.ptrs.length<=100000/\n.data.length<=100000)(i:Nat):wsum (l.take i)<=l.length*200001:=by
 have:∀ {l:List Nd},(∀n∈l,n.ptrs.length<=100000/\n.data.length<=100000)->wsum l<=l.length*200001:=by
  intro l
  induction l with
  |nil=>intro _;simp[wsum]
  |cons x l ih=>
   intro h;have h1:=ih λn hn=>h n (by simp[hn]);have h2:=h x (by simp);have h3:ndW x<=200001:=by unfold ndW;omega
   have h4:wsum (x::l)=ndW x+wsum l:=by simp[wsum]
   rw[h4,Zi0,Zid];omega
 refine Zhr (this λn hn=>h n (ZhM hn)) (Zhv _ ?_);rw[Zie];omega
def Z7u{g:Gr}(hg:g.sm):VC Sol.prog 21 false [grV g] (vi (words g)):=by
 refine Z9 Sol.func21 follows (by kernel_rfl) c21 rfl ?_;simp[p21];refine Z1 (Qy hg) (by simp) ?_;cases hr:right g
 ·simp[words,hr]
 ·obtain⟨hg1,hg2,hg3⟩:=hg;simp;refine Ys (λt=>∃i:Nat,i<=g.nodes.length/\t=[.v (grV g),.m [.sl (g.nodes.map ndV),.sl (g.roots.map vi)],.v (vi 0),.v (.bool false),.v (vi (wsum (g.nodes.take i):Nat)),.v (vi i),.v (vi g.nodes.length),.no,.no,.v (.sl (g.nodes.map ndV))]) (λt=>match get t 5 with|.v (.int _ n)=>g.nodes.length-n.toNat|_=>0) ?_ ?_
  ·exact⟨0,by simp,by simp[wsum]⟩
  ·rintro t ⟨i,hi,rfl⟩;by_cases h:i<g.nodes.length
   ·have hx:g.nodes[i]?=some g.nodes[i]:=ZgV h;obtain⟨h1,h2⟩:=hg3 _ (Zh9 h);have hs:=Z7l hx;have hle:=Zbg hg3 (i+1);have hle2:g.nodes.length*200001<=100000*200001:=Zhv _ hg1;simp[h];generalize g.nodes[i]=x at*;have hw:=Z7 ((i:Int)+1) (by omega) (by omega);have hw1:=Z7 (1+(x.ptrs.length:Int)) (by omega) (by omega);have hw2:=Z7 (1+(x.ptrs.length:Int)+x.data.length) (by omega) (by omega);unfold ndW at hs;have hw3:=Z7 ((wsum (g.nodes.take i):Int)+(1+(x.ptrs.length:Int)+x.data.length)) (by omega) (by omega);simp[hw,hw1,hw2,hw3];exact⟨⟨i+1,by omega,by rw[hs];omega,by simp⟩,by omega⟩
   ·have:i=g.nodes.length:=by omega
    subst this;simp[words,hr]
@[simp] theorem Z9F{α β:Type}{f:α->β}{l:List α}:(l.map f).take l.length=l.map f:=Zhq (by simp)
end Vm
namespace Vm
open Go Go.Proofs
def Qq{f:Int->Int}:∀ {o l:List Int},(∀x∈ZP l o,∀y∈ZP l o,f x=f y->x=y)->(∀x∈ZP l o,0<=f x)->(∀x∈o,x<0->f x<0)->ZP (l.map f) (o.map f)=(ZP l o).map f
 | [],l,_,_,_=>rfl
 |y::o,l,hi,hp,hn=>by
  simp only[Zho,ZP];simp only[ZP]at hi hp;by_cases hc:0<=y/\y∉l
  ·rw[if_pos hc]at hi hp⊢;have hy:y∈ZP (l++[y]) o:=We.2 (.inl (by simp))
   have hc':0<=f y/\f y∉l.map f:=⟨hp y hy,λhm=>by
    obtain⟨z,hz,he⟩:=Zh8.1 hm;have:=hi z (We.2 (.inl (by simp[hz]))) y hy he;subst this;exact hc.2 hz⟩
   rw[if_pos hc',show l.map f++[f y]=(l++[y]).map f by simp];exact Qq hi hp λx hx=>hn x (by simp[hx])
  ·rw[if_neg hc]at hi hp⊢
   have hc':¬(0<=f y/\f y∉l.map f):=by
    rintro⟨h1,h2⟩;by_cases h0:0<=y
    ·exact h2 (Zh8.2 ⟨y,by by_cases hy:y∈l;exact hy;exact(hc ⟨h0,hy⟩).elim,rfl⟩)
    ·have:=hn y (by simp) (by omega);omega
   rw[if_neg hc'];exact Qq hi hp λx hx=>hn x (by simp[hx])
def R9{g:Gr}:∀ {F i:Nat} {l:List Int},∃t,Yy g F i l=l++t
 |0,i,l=>⟨[],by simp[Yy]⟩
 |F+1,i,l=>by
  simp only[Yy];cases l[i]? with
  |none=>exact⟨[],by simp⟩
  |some x=>
   obtain⟨t,ht⟩:=Sf ((g.nodes[x.toNat]?).getD default).ptrs (acc:=l);obtain⟨t',ht'⟩:=R9 (g:=g) (F:=F) (i:=i+1) (l:=ZP l ((g.nodes[x.toNat]?).getD default).ptrs);refine⟨t++t',?_⟩;show Yy g F (i+1) (ZP l ((g.nodes[x.toNat]?).getD default).ptrs)=_;rw[ht',ht,ZhZ]
def Tq{g:Gr}(hr:right g=true):∀ {F i:Nat} {l:List Int} (k:Nat),Good g.nodes.length l->g.nodes.length<F+i->Yy g (F+k) i l=Yy g F i l
 |0,i,l,k,hg,hf=>by
  have:=hg.len;cases k with
  |zero=>rfl
  |succ k=>
   simp only[ZhK,Yy];rw[ZhT (by omega)]
 |F+1,i,l,k,hg,hf=>by
  rw[show F+1+k=(F+k)+1 by omega];simp only[Yy];cases hx:l[i]? with
  |none=>rfl
  |some x=>
   exact Tq hr k (Yv hg λy hy=>(VZ hr x y hy).2) (by omega)
def LA{g h:Gr}{f:Int->Int}(hnode:∀x∈order g,(h.nodes[(f x).toNat]?).map (·.ptrs)=some ((outs g x).map f))(hneg:∀x∈order g,∀y∈outs g x,y<0->f y<0)(hinj:∀x∈order g,∀y∈order g,f x=f y->x=y)(hpos:∀x∈order g,0<=f x):
  ∀ {F i:Nat} {l:List Int},(∀x∈Yy g F i l,x∈order g)->Yy h F i (l.map f)=(Yy g F i l).map f
 |0,i,l,_=>rfl
 |F+1,i,l,hm=>by
  simp only[Yy,Zhd];simp only[Yy]at hm;cases hx:l[i]? with
  |none=>rfl
  |some x=>
   rw[hx]at hm;simp only[Zha];simp only at hm
   have hxo:x∈order g:=by
    obtain⟨t,ht⟩:=Sf ((g.nodes[x.toNat]?).getD default).ptrs (acc:=l);obtain⟨t',ht'⟩:=R9 (g:=g) (F:=F) (i:=i+1) (l:=ZP l ((g.nodes[x.toNat]?).getD default).ptrs);refine hm x ?_;rw[ht',ht];simp[Zh2 hx]
   have hn:=hnode x hxo;cases hh:h.nodes[(f x).toNat]? with
   |none=>rw[hh]at hn;cases hn
   |some nd=>
    rw[hh]at hn;simp only[Zha,ZgT]at hn;simp only[Zhm,hn]
    have hsub:∀y∈ZP l (outs g x),y∈order g:=λy hy=>by
     obtain⟨t',ht'⟩:=R9 (g:=g) (F:=F) (i:=i+1) (l:=ZP l (outs g x));refine hm y ?_;show y∈Yy g F (i+1) (ZP l (outs g x));rw[ht'];simp[hy]
    rw[Qq (λa ha b hb=>hinj a (hsub a ha) b (hsub b hb)) (λa ha=>hpos a (hsub a ha)) (hneg x hxo)];exact LA hnode hneg hinj hpos hm
def U3{g:Gr}(hr:right g=true){x:Int}(hx:x∈g.roots)(h0:0<=x):x∈order g:=by
 rw[JH hr,We];exact .inr ⟨by simp[hx],h0⟩
def Z2h{g:Gr}(hr:right g=true){x y:Int}(hx:x∈order g)(hy:y∈outs g x)(h0:0<=y):y∈order g:=by
 rw[JH hr,We];exact .inr ⟨ZkQ _ (Ziw.2 ⟨x,hx,hy⟩),h0⟩
def Z9Q{L:List Int}{f:Int->Int}{p:Int}(hinj:∀x∈L,f x=f p->x=p):at0 (L.map f) (f p)=at0 L p:=by
 unfold at0;rw[List.findIdx?_map]
 have:L.findIdx? ((λx=>x==f p)∘f)=L.findIdx? (λx=>x==p):=by
  induction L with
  |nil=>rfl
  |cons a L ih=>
   simp only[ZjF,Function.comp]
   have h1:(f a==f p)=(a==p):=by
    rw[ZkJ];simp only[ZhA];exact⟨hinj a (by simp),λe=>by rw[e]⟩
   have h2:=ih λx hx=>hinj x (by simp[hx]);simp only[h1];rw[h2]
 rw[this]
def yP{g h:Gr}(hg:right g=true)(hh:right h=true)(f:Int->Int)(hf:f (-1)= -1)(hinj:∀x∈order g,∀y∈order g,f x=f y->x=y)(hpos:∀x∈order g,0<=f x)
  (hroots:h.roots=g.roots.map f) (hnodes:∀x∈order g,h.nodes[(f x).toNat]?=some ⟨(outs g x).map f,((g.nodes[x.toNat]?).getD default).data⟩):
  order h=(order g).map f/\Yn h=Yn g:=by
 have hm1:∀x:Int,-1<=x->x<0->f x=x:=λx h1 h2=>by
  have:x= -1:=by omega
  subst this;exact hf
 have hnode':∀x∈order g,(h.nodes[(f x).toNat]?).map (·.ptrs)=some ((outs g x).map f):=λx hx=>by rw[hnodes x hx];rfl
 have ho:order h=(order g).map f:=by
  have hgood0:Good g.nodes.length (ZP [] g.roots):=Yv ⟨by simp,by simp⟩ λx hx=>(Y1 hg x hx).2;have hgood1:Good h.nodes.length (ZP [] h.roots):=Yv ⟨by simp,by simp⟩ λx hx=>(Y1 hh x hx).2;have h1:=Tq hg (F:=g.nodes.length+1) (i:=0) (h.nodes.length) hgood0 (by omega);have h2:=Tq hh (F:=h.nodes.length+1) (i:=0) (g.nodes.length) hgood1 (by omega);have h3:=LA (f:=f) hnode' (λx hx y hy h0=>by rw[hm1 y (VZ hg x y hy).1 h0];exact h0) hinj hpos (F:=g.nodes.length+1+h.nodes.length) (i:=0) (l:=ZP [] g.roots) (λx hx=>by rw[h1]at hx;exact hx)
  have h4:ZP [] h.roots=(ZP [] g.roots).map f:=by
   rw[hroots];refine Qq (l:=[]) (λx hx y hy=> ?_) (λx hx=> ?_) (λx hx h0=> ?_)
   ·rw[We]at hx hy;simp at hx hy;exact hinj x (U3 hg hx.1 hx.2) y (U3 hg hy.1 hy.2)
   ·rw[We]at hx;simp at hx;exact hpos x (U3 hg hx.1 hx.2)
   ·rw[hm1 x (Y1 hg x hx).1 h0];exact h0
  unfold order;rw[<-h2,<-h1,h4,<-h3];congr 1;omega
 refine⟨ho,?_⟩
 have hmoved:∀ps:List Int,(∀p∈ps,-1<=p/\(0<=p->p∈order g))->X9 (order h) (ps.map f)=X9 (order g) ps:=by
  intro ps hps;unfold X9;rw[Zj2];refine ZiA λp hp=> ?_;obtain⟨h1,h2⟩:=hps p hp;simp only[Function.comp];by_cases h0:0<=p
  ·rw[if_pos (hpos p (h2 h0)),if_pos h0,ho];exact Z9Q λx hx he=>hinj x hx p (h2 h0) he
  ·rw[hm1 p h1 (by omega)];rw[if_neg h0,if_neg h0]
 unfold Yn;congr 1
 ·rw[ho,Zj2];refine ZiA λx hx=> ?_;simp only[Function.comp,Te,hnodes x hx,Zhm];congr 1;rw[<-ho];exact hmoved _ λp hp=>⟨(VZ hg x p hp).1,λh0=>Z2h hg hx hp h0⟩
 ·rw[hroots];exact hmoved _ λp hp=>⟨(Y1 hg p hp).1,λh0=>U3 hg hp h0⟩
def QQ{L:List Int}{x:Int}(h:x∈L):0<=at0 L x/\at0 L x<L.length/\L[(at0 L x).toNat]?=some x:=by
 unfold at0;cases hf:L.findIdx? (· ==x)with
 |none=>exact(Wr.1 hf h).elim
 |some i=>
  obtain⟨h1,h2,_⟩:=ZhJ.1 hf;simp only[ZhA]at h2;refine⟨by simp,by simpa using h1,?_⟩;simp[h1,h2]
def TC(g:Gr)(x:Int):Int:=if 0<=x then at0 (order g) x else x
def Z1v{g:Gr}(hr:right g=true):∀x∈order g,∀y∈order g,TC g x=TC g y->x=y:=by
 intro x hx y hy he;obtain⟨x0,_⟩:=(X3 hr).2 x hx;obtain⟨y0,_⟩:=(X3 hr).2 y hy;unfold TC at he;rw[if_pos x0,if_pos y0]at he;have h1:=(QQ hx).2.2;have h2:=(QQ hy).2.2;rw[he,h2]at h1;cases h1;rfl
def JX{g:Gr}(hr:right g=true):right (Yn g)=true:=by
 have hgood:=X3 hr
 have hin:∀ps:List Int,(∀p∈ps,-1<=p/\(0<=p->p∈order g))->∀q∈X9 (order g) ps,inR (Yn g).nodes.length q=true:=by
  intro ps hps q hq;obtain⟨p,hp,rfl⟩:=Zh8.1 hq;obtain⟨h1,h2⟩:=hps p hp;have hl:(Yn g).nodes.length=(order g).length:=by simp[Yn]
  rw[hl];simp only[inR,Zhc];split
  ·rename_i h0;have:=QQ (h2 h0);omega
  ·omega
 simp only[right,ZgY,Zh5,Zhc];have hr':=hr;simp only[right,ZgY,Zh5,Zhc]at hr';refine⟨⟨by simpa[Yn,X9]using hr'.1.1,λnd hnd=> ?_⟩,hin _ λp hp=>⟨(Y1 hr p hp).1,λh0=>U3 hr hp h0⟩⟩;simp only[Yn,Zh8]at hnd;obtain⟨x,hx,rfl⟩:=hnd;have hx':=hgood.2 x hx;have hlt:x.toNat<g.nodes.length:=by omega
 have h3:=hr'.1.2 _ (Zh9 hlt);simp only[U5,ZgY,Zhc,Zh5]at h3⊢;refine⟨by simpa[Te,hlt,X9]using h3.1,?_⟩;exact hin _ λp hp=>⟨(VZ hr x p hp).1,λh0=>Z2h hr hx hp h0⟩
def Z0c{g:Gr}(hr:right g=true):Yn (Yn g)=Yn g:=by
 refine(yP hr (JX hr) (TC g) (by simp[TC]) (Z1v hr) (λx hx=> ?_) rfl (λx hx=> ?_)).2
 ·unfold TC;rw[if_pos ((X3 hr).2 x hx).1];exact(QQ hx).1
 ·have h0:=((X3 hr).2 x hx).1;have:(TC g x)=at0 (order g) x:=if_pos h0;rw[this];simp only[Yn,Zhd,(QQ hx).2.2,Zha];rfl
end Vm
end
section

end
section
namespace Vm
open Go Go.Proofs
structure Fo where
 ob:Ob
 ad:Int
 sl:List Int
 deriving Inhabited
def foV(f:Fo):V:=.agg [vi f.ob.at_,vi f.ob.size,vi f.ob.ptrs,.bool f.ob.gone,vu f.ob.target,vu f.ad,.sl (f.sl.map vu)]
@[simp] theorem ZcN(f:Fo):(foV f).cells=[vi f.ob.at_,vi f.ob.size,vi f.ob.ptrs,.bool f.ob.gone,vu f.ob.target,vu f.ad,.sl (f.sl.map vu)]:=rfl
@[simp] theorem ZfO(f:Fo):szV (foV f) 7=some (foV f):=rfl
@[simp] theorem ZcG(f:Fo):Q5 (foV f) 0 7=some (foV f):=rfl
@[simp] theorem ZbW(f:Fo):fldV (foV f) 0=some (vi f.ob.at_):=rfl
@[simp] theorem ZbX(f:Fo):fldV (foV f) 1=some (vi f.ob.size):=rfl
@[simp] theorem ZbY(f:Fo):fldV (foV f) 2=some (vi f.ob.ptrs):=rfl
@[simp] theorem ZbZ(f:Fo):fldV (foV f) 3=some (.bool f.ob.gone):=rfl
@[simp] theorem Zc0(f:Fo):fldV (foV f) 4=some (vu f.ob.target):=rfl
@[simp] theorem Zc1(f:Fo):fldV (foV f) 5=some (vu f.ad):=rfl
@[simp] theorem Zc2(f:Fo):fldV (foV f) 6=some (.sl (f.sl.map vu)):=rfl
@[simp] theorem Zbo(l:List Fo):Yu 7 (l.map foV)=true:=XT λ_=>rfl
structure Vw where
 ns:List Fo
 nm:List (Int×Int)
 tm:List (Int×Int)
 deriving Inhabited
def Vw.put(s:Vw)(f:Fo):Vw:=if f.ob.gone then {s with tm:=putA s.tm f.ad f.ob.target}else {s with ns:=s.ns++[f],nm:=putA s.nm f.ad s.ns.length}
def Vw.toA(s:Vw)(w:Int):Int:=if w=0 then-1 else(getA s.nm ((getA s.tm (adr w).1).getD (adr w).1)).getD 0
def ndF(s:Vw)(f:Fo):Nd:=⟨(f.sl.take f.ob.ptrs.toNat).map s.toA,f.sl.drop f.ob.ptrs.toNat⟩
def Vw.gr(s:Vw)(roots:List Int):Gr:=⟨s.ns.map (ndF s),roots.map s.toA⟩
def Z93(s:Vw){ws:List Int}(hl:ws.length<=1000000)(hu:∀w∈ws,U64 w):
  VCM Sol.prog 43 [.fz,.mem [.fz],.mem [.fz]] [.sl (ws.map vu),.agg [mpA vu s.tm],.agg [mpA vi s.nm]] (.tup [.sl ((ws.map s.toA).map vi),.agg [mpA vu s.tm],.agg [mpA vi s.nm]]):=by
 refine Vd Sol.func43 follows (by kernel_rfl) cTo (by kernel_rfl) ?_;simp[pTo];refine Xj 5 ws.length (λi=>[(4,.v (.sl (((ws.take i).map s.toA).map vi))),(5,.v (vi i))]) (λ_=>True) (by simp) (by simp) trivial ?_;intro i hi _;by_cases h:i<ws.length
 ·have hx:ws[i]?=some ws[i]:=ZgV h;have hU:=hu _ (Zh9 h);have hw:=Z7 ((i:Int)+1) (by omega) (by omega)
  have htk:List.take (i+1) (List.map (vi∘s.toA) ws)=List.take i (List.map (vi∘s.toA) ws)++[vi (s.toA ws[i])]:=by
   rw[ZhQ,Zhd,hx];rfl
  have hlim:min i ws.length+1<=lim:=by unfold lim;omega
  simp[h,hw,htk,hlim];split
  ·rename_i h0;simp[Vw.toA,h0]
  ·rename_i h0;refine Z1 (yp hU) (by simp) ?_;have e1:=Z0M (f:=vu) (l:=s.tm) (k:=(adr ws[i]).1) (z:=.int .u64 0) (ok:=true);cases h1:getA s.tm (adr ws[i]).1 with
   |none=>
    rw[h1]at e1;have e2:=Z0M (f:=vi) (l:=s.nm) (k:=(adr ws[i]).1) (z:=.int .i64 0) (ok:=false);cases h2:getA s.nm (adr ws[i]).1 with
    |none=>rw[h2]at e2;simp[e1,e2,Vw.toA,h0,h1,h2,hw,hlim]
    |some t=>rw[h2]at e2;simp[e1,e2,Vw.toA,h0,h1,h2,hw,hlim]
   |some u=>
    rw[h1]at e1;have e2:=Z0M (f:=vi) (l:=s.nm) (k:=u) (z:=.int .i64 0) (ok:=false);cases h2:getA s.nm u with
    |none=>rw[h2]at e2;simp[e1,e2,Vw.toA,h0,h1,h2,hw,hlim]
    |some t=>rw[h2]at e2;simp[e1,e2,Vw.toA,h0,h1,h2,hw,hlim]
 ·have:i=ws.length:=by omega
  subst this;simp
def ZfK{s:St}{st:Vw}{f:Fo}{N R:St->Prop}{X:Nat->St->Prop}(h6:get s 6=.v (.sl (st.ns.map foV)))(h7:get s 7=.m [mpA vi st.nm])(h8:get s 8=.m [mpA vu st.tm])(h12:get s 12=.v (.tup [foV f,.bool true]))(h10:get s 10=.v (.bool true))(hl:st.ns.length<=4000000)
  (hN:∀s',get s' 6=.v (.sl ((st.put f).ns.map foV))->get s' 7=.m [mpA vi (st.put f).nm]->get s' 8=.m [mpA vu (st.put f).tm]->get s' 1=get s 1->get s' 2=get s 2->get s' 3=get s 3->N s'):wpS Sol.prog rD s N X R:=by
 have e1:=JC (f:=vu) (l:=st.tm) (k:=f.ad) (x:=f.ob.target);have e2:=JC (f:=vi) (l:=st.nm) (k:=f.ad) (x:=(st.ns.length:Int));have hlim:st.ns.length+1<=lim:=by unfold lim;omega
 cases hg:f.ob.gone
 ·simp[rD,h10,h12,Zo,hg,h6,h7,h8,e2,hlim];refine hN _ ?_ ?_ ?_ ?_ ?_ ?_ <;>simp[Vw.put,hg,h8,Zo]<;>simp[foV,hg]
 ·simp[rD,h10,h12,Zo,hg,h6,h7,h8,e1];refine hN _ ?_ ?_ ?_ ?_ ?_ ?_ <;>simp[Vw.put,hg,h6,h7,Zo]
def ZdH{s:St}{N R:St->Prop}{X:Nat->St->Prop}(h10:get s 10=.v (.bool false))(hX:X 0 s):wpS Sol.prog rD s N X R:=by
 simp[rD,h10,hX]
structure Vw.sm (st:Vw) (roots:List Int):Prop where
 n:st.ns.length<=100000
 f:∀f∈st.ns,0<=f.ob.ptrs/\f.ob.ptrs<=f.sl.length/\f.sl.length<=100000/\∀w∈f.sl,U64 w
 r:roots.length<=100000/\∀w∈roots,U64 w
def Vw.sm.gr{st:Vw}{roots:List Int}(h:st.sm roots):(st.gr roots).sm:=by
 refine⟨by simpa[Vw.gr]using h.n,by simpa[Vw.gr]using h.r.1,λn hn=> ?_⟩;simp only[Vw.gr,Zh8]at hn;obtain⟨f,hf,rfl⟩:=hn;obtain⟨_,_,h3,_⟩:=h.f f hf;simp only[ndF,ZhG,Zie,Zj8];omega
def ZfJ{s:St}{st:Vw}{roots:List Int}{b c t y sc:V}{x5 x6 x7 x8:V}{N R:St->Prop}{X:Nat->St->Prop}(hs:st.sm roots)(h1:get s 1=.m [b,c,t,y,sc,x5,x6,x7,x8,.sl (roots.map vu)])(h6:get s 6=.v (.sl (st.ns.map foV)))(h7:get s 7=.m [mpA vi st.nm])(h8:get s 8=.m [mpA vu st.tm])
  (hR:∀s',resV s' [(2,.ag 2),(3,.v)]=some (XA (st.gr roots))->R s'):wpS Sol.prog rC s N X R:=by
 simp[rC,h6,Zo];refine Xj 16 st.ns.length (λi=>[(15,.m [.sl (((st.ns.take i).map (ndF st)).map ndV),.sl []]),(16,.v (vi i))]) (λ_=>True) (by simp[Zo]) (by simp[Zo]) trivial ?_;intro i hi _;by_cases h:i<st.ns.length
 ·have hx:st.ns[i]?=some st.ns[i]:=ZgV h;obtain⟨p0,p1,p2,p3⟩:=hs.f _ (Zh9 h);have hn:=hs.n;obtain⟨P,hP⟩:=Zhf p0;have hPl:P<=st.ns[i].sl.length:=by omega
  have hw:=Z7 ((i:Int)+1) (by omega) (by omega)
  have htk:List.take (i+1) (List.map (ndV∘ndF st) st.ns)=List.take i (List.map (ndV∘ndF st) st.ns)++[ndV (ndF st st.ns[i])]:=by
   rw[ZhQ,Zhd,hx];rfl
  have hto:=Z93 st (ws:=st.ns[i].sl.take P) (by simp;omega) λw hw=>p3 w (ZhM hw);have hlim:min i st.ns.length+1<=lim:=by unfold lim;omega
  simp[Zo,h,h1,h6,h7,h8,hP,slcV,hPl];rw[List.map_take]at hto;refine ZU hto ?_;simp[Zo,Z1r,hPl,hw,htk,hlim,hP,ndF,ndV]
 ·have:i=st.ns.length:=by omega
  subst this;simp[Zo,h1,h6,h7,h8];refine ZU (Z93 st (ws:=roots) (by have:=hs.r.1;omega) hs.r.2) ?_;simp;have hc:=Z1D hs.gr;simp only[Vw.gr,grV,Zj2]at hc;refine Z1 hc (by simp) ?_;have he:XA (st.gr roots)=XA {nodes:=List.map (ndF st) st.ns,roots:=List.map st.toA roots}:=rfl;rw[he]at hR;generalize ({nodes:=List.map (ndF st) st.ns,roots:=List.map st.toA roots}:Gr)=g at*;unfold XA at hR⊢;split
  ·rename_i hg;rw[if_pos hg]at hR;simp;refine hR _ ?_;simp[resV,So,JW,grV]
  ·rename_i hg;rw[if_neg hg]at hR;simp[noGr,grV];refine hR _ ?_;simp[resV,So,JW,noGr,grV]
end Vm
end
section
namespace Vm
open Go Go.Proofs Go.RowKit Go.Conc
def ZbB{t:Array Value}(h:t.size=71):t=#[t.getD 0 undef,t.getD 1 undef,t.getD 2 undef,t.getD 3 undef,t.getD 4 undef,t.getD 5 undef,t.getD 6 undef,t.getD 7 undef,t.getD 8 undef,t.getD 9 undef,t.getD 10 undef,t.getD 11 undef,t.getD 12 undef,t.getD 13 undef,t.getD 14 undef,t.getD 15 undef,t.getD 16 undef,t.getD 17 undef,t.getD 18 undef,t.getD 19 undef,t.getD 20 undef,t.getD 21 undef,t.getD 22 undef,t.getD 23 undef,t.getD 24 undef,t.getD 25 undef,t.getD 26 undef,t.getD 27 undef,t.getD 28 undef,t.getD 29 undef,t.getD 30 undef,t.getD 31 undef,t.getD 32 undef,t.getD 33 undef,t.getD 34 undef,t.getD 35 undef,t.getD 36 undef,t.getD 37 undef,t.getD 38 undef,t.getD 39 undef,t.getD 40 undef,t.getD 41 undef,t.getD 42 undef,t.getD 43 undef,t.getD 44 undef,t.getD 45 undef,t.getD 46 undef,t.getD 47 undef,t.getD 48 undef,t.getD 49 undef,t.getD 50 undef,t.getD 51 undef,t.getD 52 undef,t.getD 53 undef,t.getD 54 undef,t.getD 55 undef,t.getD 56 undef,t.getD 57 undef,t.getD 58 undef,t.getD 59 undef,t.getD 60 undef,t.getD 61 undef,t.getD 62 undef,t.getD 63 undef,t.getD 64 undef,t.getD 65 undef,t.getD 66 undef,t.getD 67 undef,t.getD 68 undef,t.getD 69 undef,t.getD 70 undef]:=by
 refine ZkF (by simpa using h) λi h1 h2=> ?_;have h2':i<71:=by simpa using h2
 have e:t[i]=t.getD i undef:=by simp[Array.getD,h1]
 rw[e]
 revert h2
 match i,h2' with
 |0,_=>exactλ_=>rfl
 |1,_=>exactλ_=>rfl
 |2,_=>exactλ_=>rfl
 |3,_=>exactλ_=>rfl
 |4,_=>exactλ_=>rfl
 |5,_=>exactλ_=>rfl
 |6,_=>exactλ_=>rfl
 |7,_=>exactλ_=>rfl
 |8,_=>exactλ_=>rfl
 |9,_=>exactλ_=>rfl
 |10,_=>exactλ_=>rfl
 |11,_=>exactλ_=>rfl
 |12,_=>exactλ_=>rfl
 |13,_=>exactλ_=>rfl
 |14,_=>exactλ_=>rfl
 |15,_=>exactλ_=>rfl
 |16,_=>exactλ_=>rfl
 |17,_=>exactλ_=>rfl
 |18,_=>exactλ_=>rfl
 |19,_=>exactλ_=>rfl
 |20,_=>exactλ_=>rfl
 |21,_=>exactλ_=>rfl
 |22,_=>exactλ_=>rfl
 |23,_=>exactλ_=>rfl
 |24,_=>exactλ_=>rfl
 |25,_=>exactλ_=>rfl
 |26,_=>exactλ_=>rfl
 |27,_=>exactλ_=>rfl
 |28,_=>exactλ_=>rfl
 |29,_=>exactλ_=>rfl
 |30,_=>exactλ_=>rfl
 |31,_=>exactλ_=>rfl
 |32,_=>exactλ_=>rfl
 |33,_=>exactλ_=>rfl
 |34,_=>exactλ_=>rfl
 |35,_=>exactλ_=>rfl
 |36,_=>exactλ_=>rfl
 |37,_=>exactλ_=>rfl
 |38,_=>exactλ_=>rfl
 |39,_=>exactλ_=>rfl
 |40,_=>exactλ_=>rfl
 |41,_=>exactλ_=>rfl
 |42,_=>exactλ_=>rfl
 |43,_=>exactλ_=>rfl
 |44,_=>exactλ_=>rfl
 |45,_=>exactλ_=>rfl
 |46,_=>exactλ_=>rfl
 |47,_=>exactλ_=>rfl
 |48,_=>exactλ_=>rfl
 |49,_=>exactλ_=>rfl
 |50,_=>exactλ_=>rfl
 |51,_=>exactλ_=>rfl
 |52,_=>exactλ_=>rfl
 |53,_=>exactλ_=>rfl
 |54,_=>exactλ_=>rfl
 |55,_=>exactλ_=>rfl
 |56,_=>exactλ_=>rfl
 |57,_=>exactλ_=>rfl
 |58,_=>exactλ_=>rfl
 |59,_=>exactλ_=>rfl
 |60,_=>exactλ_=>rfl
 |61,_=>exactλ_=>rfl
 |62,_=>exactλ_=>rfl
 |63,_=>exactλ_=>rfl
 |64,_=>exactλ_=>rfl
 |65,_=>exactλ_=>rfl
 |66,_=>exactλ_=>rfl
 |67,_=>exactλ_=>rfl
 |68,_=>exactλ_=>rfl
 |69,_=>exactλ_=>rfl
 |70,_=>exactλ_=>rfl
 |i+71,h=>omega
def sliV(v:Value)(lo n:Nat):Value:=match v with
 |.slice (some ⟨b,o,q⟩) _ c=>.slice (some (if c=lo then⟨b,o,q⟩else⟨b,o+lo,q⟩)) n (c-lo)
 |v=>v
def fvV(h:Hp)(x:Nat->Value)(p:Nat)(o:Ob):Value:=.agg #[.int .i64 o.at_,.int .i64 o.size,.int .i64 o.ptrs,.bool o.gone,.int .u64 o.target,.int .u64 (ZJ (layH h) ((p:Int)+1) o.at_).1,sliV (x p) (o.at_+1).toNat o.size.toNat]
def obP(h:Hp)(p:Nat):List Ob:=(Q8 h ((p:Int)+1)).1
def fvs(h:Hp)(x:Nat->Value):Nat->Nat->List Value
 |0,_=>[]
 |n+1,p=>(obP h p).map (fvV h x p)++fvs h x n (p+1)
noncomputable def seC:Code:=match Try.f42.body with|some c=>c|none=>.skip
noncomputable def clOps:Array Oper:=Z6k (cAt seC [1,1,1])
def AtCl(c:Nat)(b:Frame)(cs0:List Frame)(fr:Frame)(cs:List Frame)(w:World):Prop:=cs=cs0/\∃a,fr=b.at a [.inRegion clOps [1]]/\a.tmps[70]?=some (.chan (some c))/\a.defers=[]
def ZdI{w:World}{G:Nat->Prop}{h:Hp}{x:Nat->Value}(hr:∀j,j<5->Rd w G (.sl ((lsH h j).map vu)) (x j)):Rd w G (hpV h) (hpA h x):=by
 refine .agg _ _ rfl (by simp[V.one]) ?_;intro i y hy
 match i,hy with
 |0,hy=>cases hy;exact .int _ _
 |1,hy=>cases hy;exact .int _ _
 |2,hy=>cases hy;exact .int _ _
 |3,hy=>cases hy;exact .bool _
 |4,hy=>cases hy;exact .int _ _
 |5,hy=>cases hy;exact hr 0 (by omega)
 |6,hy=>cases hy;exact hr 1 (by omega)
 |7,hy=>cases hy;exact hr 2 (by omega)
 |8,hy=>cases hy;exact hr 3 (by omega)
 |9,hy=>cases hy;exact hr 4 (by omega)
def Z2Y{w:World}{G:Nat->Prop}{h:Hp}(hh:h.ok){x:Nat->Value}(hG:∀b,G b->b<w.heap.size)(hr:∀j,j<5->Rd w G (.sl ((lsH h j).map vu)) (x j))(p:Int):
  Calls Sol.prog 27 #[hpA h x,.int .i64 p] w λe w'=>∃s,e=.returned (.tuple #[s,.int .i64 (Q8 h p).2])/\Below w.heap.size w w'/\Rd w' (λb=>b<w'.heap.size) (.sl ((Q8 h p).1.map obV)) s:=by
 refine Zkp ((Zf1 hh (k:=p)).2 w G _ hG rfl ?_) ?_
 ·intro i y hy
  match i,hy with
  |0,hy=>cases hy;exact ZdI hr
  |1,hy=>cases hy;exact .int _ _
 ·rintro e w' ⟨v,rfl,hb,hv⟩;cases hv with
  |tup _ vs h1 h2=>
   have e1:=h2 0 _ rfl;have e2:=Vv (h2 1 _ rfl);simp only[Zi0,ZiM]at h1;refine⟨vs.getD 0 undef,?_,hb,e1.mono λb hb'=> ?_⟩
   ·congr 2;refine ZkF (by simpa using h1) λi q1 q2=> ?_;have:i=0\/i=1:=by simp at q2;omega
    rcases this with rfl|rfl
    ·simp[Array.getD,q1]
    ·simp[Array.getD,q1]at e2;simpa using e2
   ·rcases hb' with ⟨_,hb'⟩|hb'
    ·exact Zh6 (hG b hb') hb.size
    ·exact hb'.2
def u71(a b:Value):(#[a,b]:Array Value)++Array.replicate (71- (#[a,b]:Array Value).size) undef=#[a,b,undef,undef,undef,undef,undef,undef,undef,undef,undef,undef,undef,undef,undef,undef,undef,undef,undef,undef,undef,undef,undef,undef,undef,undef,undef,undef,undef,undef,undef,undef,undef,undef,undef,undef,undef,undef,undef,undef,undef,undef,undef,undef,undef,undef,undef,undef,undef,undef,undef,undef,undef,undef,undef,undef,undef,undef,undef,undef,undef,undef,undef,undef,undef,undef,undef,undef,undef,undef,undef]:=by kernel_rfl
structure SSt (w:World) (h:Hp) (x:Nat->Value) (b4:Nat) (W:World):Prop where
 bel:Below w.heap.size w W
 c2:W.heap[w.heap.size]?=some (.cells #[.int .u64 h.base,.int .i64 h.cap,.int .i64 h.to,.bool h.cycle,.int .i64 h.scan,x 0,x 1,x 2,x 3,x 4] 37 (0,0))
 c4:W.heap[b4]?=some (.cells #[.int .u64 h.base,.int .i64 h.cap,.int .i64 h.to,.int .i64 h.low.length,.int .i64 h.high.length,.int .i64 h.old.length,.int .i64 h.far.length] 69 (0,0))
def SSt.below{w W W':World}{h:Hp}{x:Nat->Value}{b4:Nat}(s:SSt w h x b4 W)(hb:Below W.heap.size W W'):SSt w h x b4 W':=
 ⟨s.bel.trans (hb.mono s.bel.size),(hb.block _ (ZI s.c2)).trans s.c2,(hb.block _ (ZI s.c4)).trans s.c4⟩
def jk{W:World}{G:Nat->Prop}{l:List Int}{y:Value}(h:Rd W G (.sl (l.map vu)) y):∃a c,y=.slice a l.length c:=by
 generalize hL:l.map vu=L at h;have hl:L.length=l.length:=by rw[<-hL,ZhG]
 cases h with
 |nil a c h1=>exact⟨_,_,by rw[<-hl];rfl⟩
 |sl _ b o cap kk vs h1 h2=>exact⟨_,_,by rw[hl]⟩
def ZaY{P:Program}{W:World}{T el:TypeId}(hT:P.underlying T=some (.slice el))(hz:(Go.sizeOf el).run P W=.ok 1 W){b o len cap:Nat}{lo hi:Int}(h1:0<=lo)(h2:lo<=hi)(h3:hi<=cap):
  (Instr.slice T (.slice (some ⟨b,o,none⟩) len cap) (some (.int .i64 lo)) (some (.int .i64 hi)) none).run P W=.ok (sliV (.slice (some ⟨b,o,none⟩) len cap) lo.toNat (hi-lo).toNat) W:=by
 obtain⟨l,rfl⟩:=Zhf h1;obtain⟨k,rfl⟩:=Zhf (show 0<=hi by omega);have h4:l<=k:=by omega
 have h5:k<=cap:=by omega
 have h6:((k:Int) - (l:Int)).toNat=k-l:=by omega
 simp[Instr.slice,Instr.sliceBounds,Instr.sliceBound,asIntOf,Zhx hT,hz,h4,h5,h6,sliV,Addr.add];by_cases h8:cap=l
 ·simp[h8]
 ·simp[h8]
def ZdL{W:World}{G:Nat->Prop}{l:List Int}{y:Value}(h:Rd W G (.sl (l.map vu)) y)(h0:0<l.length){a:Option Addr}{n k:Nat}(e:y=.slice a n k):∃b o,a=some ⟨b,o,none⟩/\l.length<=k/\k<=maxLen:=by
 generalize hL:l.map vu=L at h;have hl:L.length=l.length:=by rw[<-hL,ZhG]
 cases h with
 |nil a c h1=>simp at hl;omega
 |sl _ b o cap kk vs h1 h2=>cases e;exact⟨b,o,rfl,by omega,h2⟩
def ZdJ{W:World}{G:Nat->Prop}{l:List Ob}{y:Value}(h:Rd W G (.sl (l.map obV)) y):∃a c,y=.slice a l.length c:=by
 generalize hL:l.map obV=L at h;have hl:L.length=l.length:=by rw[<-hL,ZhG]
 cases h with
 |nil a c h1=>exact⟨_,_,by rw[<-hl];rfl⟩
 |sl _ b o cap kk vs h1 h2=>exact⟨_,_,by rw[hl]⟩
def Z2G:Try.f42.body=some seC:=by kernel_rfl
def ZcY{Q:Program}{c:Nat}{Post:Frame->List Frame->World->Prop}{es:List Ev}{fn:Func}{code code2:Code}{a:Act}{b:Frame}{w:World}{cs:List Frame}(h1:fn.body=some code)(h2:fn.body=some code2)(h:LS Q c Post es (b.at a [.code code]) cs w):LS Q c Post es (b.at a [.code code2]) cs w:=by
 rw[h1]at h2;cases h2;exact h
def Zb0(b:Frame)(cs0:List Frame)(w:World)(h:Hp)(hh:h.ok)(x:Nat->Value)(c:Nat)(G:Nat->Prop)(hG:∀b,G b->b<w.heap.size)(hr:∀j,j<5->Rd w G (.sl ((lsH h j).map vu)) (x j))
  (hob:∀p,p<4->(obP h p).length<=1000000/\∀o∈obP h p,0<=o.at_/\0<=o.size/\o.at_+1+o.size<=(lsH h p).length):
  LS Sol.prog c (AtCl c b cs0) ((fvs h x 4 0).map .send) (b.at {tmps:=#[hpA h x,.chan (some c)]++Array.replicate (71- (#[hpA h x,.chan (some c)]:Array Value).size) undef,defers:=[]} [.code seC]) cs0 w:=by
 obtain⟨a0,k0,e0⟩:=jk (hr 0 (by omega));obtain⟨a1,k1,e1⟩:=jk (hr 1 (by omega));obtain⟨a2,k2,e2⟩:=jk (hr 2 (by omega));obtain⟨a3,k3,e3⟩:=jk (hr 3 (by omega));have HE:=Zhu (And.intro e0 (And.intro e1 (And.intro e2 e3)))
 have HL:∀W,Below w.heap.size w W->Calls Sol.prog 64 #[hpA h x] W λe w'=>e=.returned (lyA (layH h))/\Below W.heap.size W w':=λW hW=>
  yj (G:=G) (λb hb=>Zh6 (hG b hb) hW.size) λj hj=>(hr j hj).keep (λb hb=>hW.block b (hG b hb)) λ_ q=>q
 have HO:∀W,Below w.heap.size w W->∀p,Calls Sol.prog 27 #[hpA h x,.int .i64 p] W λe w'=>∃s,e=.returned (.tuple #[s,.int .i64 (Q8 h p).2])/\Below W.heap.size W w'/\Rd w' (λb=>b<w'.heap.size) (.sl ((Q8 h p).1.map obV)) s:=λW hW p=>
  Z2Y hh (G:=G) (λb hb=>Zh6 (hG b hb) hW.size) (λj hj=>(hr j hj).keep (λb hb=>hW.block b (hG b hb)) λ_ q=>q) p
 unfold hpA at HL HO;rw[e0,e1,e2,e3]at HL HO;have HL:=Zhu HL;have HO:=Zhu HO;have HF:=Zhu (And.intro hG hr);have HB:=Zhu hob;clear hG hr hob;unfold hpA;rw[e0,e1,e2,e3];refine ZcY (fn:=Try.f42) rfl Z2G ?_;rw[u71];refine LS.two (LS.regK λK hK=> ?_);go_wp2;obtain⟨w2,hw2⟩:∃w2,w2=w.alloc (.cells #[.int .u64 h.base,.int .i64 h.cap,.int .i64 h.to,.bool h.cycle,.int .i64 h.scan,.slice a0 (lsH h 0).length k0,.slice a1 (lsH h 1).length k1,.slice a2 (lsH h 2).length k2,.slice a3 (lsH h 3).length k3,x 4] 37):=⟨_,rfl⟩;rw[<-hw2];have b2:w2.heap[w.heap.size]?=some (.cells #[.int .u64 h.base,.int .i64 h.cap,.int .i64 h.to,.bool h.cycle,.int .i64 h.scan,.slice a0 (lsH h 0).length k0,.slice a1 (lsH h 1).length k1,.slice a2 (lsH h 2).length k2,.slice a3 (lsH h 3).length k3,x 4] 37 (0,0)):=by rw[hw2];exact ZhH ..
 have z2:w2.heap.size=w.heap.size+1:=by rw[hw2];simp
 have q2:Below w.heap.size w w2:=by rw[hw2];exact(ZhL _ _).alloc (Zh1 _) _
 clear hw2;have y2:∀j,w2.cell? ⟨w.heap.size,j,none⟩=(#[.int .u64 h.base,.int .i64 h.cap,.int .i64 h.to,.bool h.cycle,.int .i64 h.scan,.slice a0 (lsH h 0).length k0,.slice a1 (lsH h 1).length k1,.slice a2 (lsH h 2).length k2,.slice a3 (lsH h 3).length k3,x 4]:Array Value)[j]? :=λj=>Zhg _ _ _ _ _ _ b2;have HS:=Zhu (And.intro b2 (And.intro z2 q2));clear b2 z2 q2;refine LS.two (LS.regK λK hK=> ?_)
 go_wp2_with (first
  |(go_at_call 64;refine(HL.out _ HS.out.2.2).mono ?_;rintro e w3 ⟨rfl,hb3⟩;unfold lyA layH;dsimp only;have HB3:=Zhu hb3;clear hb3))
 obtain⟨W,hW⟩:∃W,W=w3.alloc (.cells #[.int .u64 h.base,.int .i64 h.cap,.int .i64 h.to,.int .i64 h.low.length,.int .i64 h.high.length,.int .i64 h.old.length,.int .i64 h.far.length] 69):=⟨_,rfl⟩;obtain⟨b4,hb4⟩:∃b4,b4=w3.heap.size:=⟨_,rfl⟩;rw[<-hW,<-hb4]
 have hS:SSt w h x b4 W:=by
  have hz:=HB3.out.size;rw[hW,hb4];exact⟨(HS.out.2.2.trans (HB3.out.mono HS.out.2.2.size)).alloc (by have:=HS.out.2.2.size;omega) _,by rw[Zi2 _ _ _ (by have:=ZI HS.out.1;omega)];rw[e0,e1,e2,e3];exact(HB3.out.block _ (ZI HS.out.1)).trans HS.out.1,ZhH ..⟩
 clear hW hb4 HB3 HS y2 e0 e1 e2 e3;have y2:∀j,W.cell? ⟨w.heap.size,j,none⟩=(#[.int .u64 h.base,.int .i64 h.cap,.int .i64 h.to,.bool h.cycle,.int .i64 h.scan,.slice a0 (lsH h 0).length k0,.slice a1 (lsH h 1).length k1,.slice a2 (lsH h 2).length k2,.slice a3 (lsH h 3).length k3,x 4]:Array Value)[j]? :=λj=>by have:=hS.c2;rw[HE.out.1,HE.out.2.1,HE.out.2.2.1,HE.out.2.2.2]at this;exact Zhg _ _ _ _ _ _ this
 refine LS.two (LS.two (LS.regK λK hK=> ?_));go_wp2
 refine LS.block (LS.loopI (λn es a W=>∃(p:Nat) (t:Array Value),p+n=4/\es=(fvs h x n p).map .send/\a=⟨t,[]⟩/\t.size=71/\t.getD 1 undef=.chan (some c)/\t.getD 2 undef=.pointer (some ⟨w.heap.size,0,none⟩)/\t.getD 4 undef=.pointer (some ⟨b4,0,none⟩)/\
  t.getD 24 undef=.agg #[.slice a0 (lsH h 0).length k0,.slice a1 (lsH h 1).length k1,.slice a2 (lsH h 2).length k2,.slice a3 (lsH h 3).length k3]/\t.getD 25 undef=.int .i64 p/\SSt w h x b4 W) (n:=4) ⟨0,_,rfl,rfl,rfl,rfl,rfl,rfl,rfl,rfl,rfl,hS⟩ ?_)
 clear hS y2 W;rintro n es a W ⟨p,t,hp,rfl,rfl,hsz,t1,t2,t4,t24,t25,hS⟩ ih;have IH:=Zhu ih;clear ih;rw[ZbB hsz,t1,t2,t4,t24,t25];obtain⟨g,hg⟩:∃g:Nat->Value,∀i,t.getD i undef=g i:=⟨_,λ_=>rfl⟩;simp only[hg];clear hg t1 t2 t4 t24 t25 hsz t;have y2:∀j,W.cell? ⟨w.heap.size,j,none⟩=(#[.int .u64 h.base,.int .i64 h.cap,.int .i64 h.to,.bool h.cycle,.int .i64 h.scan,.slice a0 (lsH h 0).length k0,.slice a1 (lsH h 1).length k1,.slice a2 (lsH h 2).length k2,.slice a3 (lsH h 3).length k3,x 4]:Array Value)[j]? :=λj=>by have:=hS.c2;rw[HE.out.1,HE.out.2.1,HE.out.2.2.1,HE.out.2.2.2]at this;exact Zhg _ _ _ _ _ _ this
 cases n with
 |zero=>
  have hpI:((p:Int)<4)=False:=ZkV (by omega);refine LS.two (LS.regK λK hK=> ?_);go_wp2;refine LS.two (LS.condF rfl (LS.exit rfl (LS.region ?_)));refine LS.value (i:=0) (l:=[1]) rfl rfl rfl ?_;exact LS.now ⟨rfl,_,rfl,rfl,rfl⟩
 |succ n=>
  have hpI:((p:Int)<4)=True:=eq_true (by omega);have hp4:p<4:=by omega
  refine LS.two (LS.regK λK hK=> ?_);go_wp2;refine LS.two (LS.condT rfl (LS.skip (LS.two (LS.block (LS.two (LS.regK λK hK=> ?_))))));obtain⟨ap,kp,ep⟩:=jk (HF.out.2 p (by omega))
  have hidx:∀W,(Instr.index 135 (.agg #[.slice a0 (lsH h 0).length k0,.slice a1 (lsH h 1).length k1,.slice a2 (lsH h 2).length k2,.slice a3 (lsH h 3).length k3]) (.int .i64 (p:Int))).run Sol.prog W=.ok (.slice ap (lsH h p).length kp) W:=by
   intro W;have hT:Sol.prog.underlying 135=some (.array 4 35):=by kernel_rfl
   have:p=0\/p=1\/p=2\/p=3:=by omega
   rw[<-ep];rcases this with rfl|rfl|rfl|rfl
   ·rw[HE.out.1];simp[Instr.index,asIntOf,Zhx hT,part]
   ·rw[HE.out.2.1];simp[Instr.index,asIntOf,Zhx hT,part]
   ·rw[HE.out.2.2.1];simp[Instr.index,asIntOf,Zhx hT,part]
   ·rw[HE.out.2.2.2];simp[Instr.index,asIntOf,Zhx hT,part]
  have EP:=Zhu ep;clear ep;go_wp2;clear hidx;have hw1:=Z7 ((p:Int)+1) (by omega) (by omega);refine LS.two (LS.regK λK hK=> ?_);go_wp2;have HS:=Zhu hS;clear hS;refine LS.two (LS.regK λK hK=> ?_)
  go_wp2_with (first
   |(go_at_call 27;refine(HO.out _ HS.out.bel _).mono ?_;rintro e W5 ⟨s5,rfl,hb5,hr5⟩;obtain⟨a5,k5,rfl⟩:=ZdJ hr5;have HB5:=Zhu (And.intro hb5 hr5);clear hb5 hr5))
  refine LS.two (LS.regK λK hK=> ?_);go_wp2;have hS:=HS.out.below HB5.out.1;have hr5:=HB5.out.2;clear HS HB5 y2 W hpI;rename_i W5;rw[show(Q8 h ((p:Int)+1)).1=obP h p from rfl]at hr5⊢;have hobs:=Z6e hr5 λb hb=>hb;obtain⟨hol,hoo⟩:=HB.out p hp4;have hfv:fvs h x (n+1) p=(obP h p).map (fvV h x p)++fvs h x n (p+1):=rfl;rw[hfv];clear hfv hr5;have HX:=Zhu (And.intro hobs (And.intro hol hoo));clear hobs hoo
  refine LS.block (LS.loopI (λm es a W=>∃(i:Nat) (t:Array Value),i+m=(obP h p).length/\es=(((obP h p).drop i).map (fvV h x p)++fvs h x n (p+1)).map .send/\a=⟨t,[]⟩/\t.size=71/\t.getD 1 undef=.chan (some c)/\t.getD 2 undef=.pointer (some ⟨w.heap.size,0,none⟩)/\t.getD 4 undef=.pointer (some ⟨b4,0,none⟩)/\
   t.getD 6 undef=.slice ap (lsH h p).length kp/\t.getD 7 undef=.int .i64 ((p:Int)+1)/\t.getD 24 undef=.agg #[.slice a0 (lsH h 0).length k0,.slice a1 (lsH h 1).length k1,.slice a2 (lsH h 2).length k2,.slice a3 (lsH h 3).length k3]/\t.getD 25 undef=.int .i64 p/\t.getD 37 undef=.slice a5 (obP h p).length k5/\t.getD 38 undef=.int .i64 (obP h p).length/\t.getD 39 undef=.int .i64 i/\
   SSt w h x b4 W/\Below W5.heap.size W5 W) (n:=(obP h p).length) ⟨0,_,by omega,rfl,rfl,rfl,rfl,rfl,rfl,rfl,rfl,rfl,rfl,rfl,rfl,rfl,hS,ZhL _ _⟩ ?_)
  clear hS g hw1;rintro m es a W ⟨i,t,hi,rfl,rfl,hsz,t1,t2,t4,t6,t7,t24,t25,t37,t38,t39,hS,hB5⟩ ih;have IH2:=Zhu ih;clear ih;rw[ZbB hsz,t1,t2,t4,t6,t7,t24,t25,t37,t38,t39];obtain⟨g,hg⟩:∃g:Nat->Value,∀i,t.getD i undef=g i:=⟨_,λ_=>rfl⟩;simp only[hg];clear hg t1 t2 t4 t6 t7 t24 t25 t37 t38 t39 hsz t;cases m with
  |zero=>
   have hiI:((i:Int)< ((obP h p).length:Int))=False:=ZkV (by omega);refine LS.two (LS.regK λK hK=> ?_);go_wp2;refine LS.two (LS.condF rfl (LS.exit rfl (LS.inBlock ?_)));have hw1:=Z7 ((p:Int)+1) (by omega) (by omega);have hdr:(obP h p).drop i=[]:=ZkB (by omega);rw[hdr];clear hdr hiI;refine LS.regK λK hK=> ?_;go_wp2;exact IH.out n _ _ _ (by omega) ⟨p+1,_,by omega,rfl,rfl,rfl,rfl,rfl,rfl,rfl,by simp,hS⟩
  |succ m=>
   have hil:i< (obP h p).length:=by omega
   obtain⟨o,ho⟩:∃o,(obP h p)[i]?=some o:=⟨_,ZgV hil⟩;have hiI:((i:Int)< ((obP h p).length:Int))=True:=eq_true (by omega);obtain⟨g5,o5,cap5,e5,hc5,hm5,hg5,hcell⟩|⟨a9,c9,e9,e10⟩:=HX.out.1
   case inr=>rw[e10]at hil;simp at hil
   injection e5 with e5 _ e6;subst e5;subst e6;obtain⟨v0,v1,v2,v3,v4⟩:=hcell i o ho;have hBb:=hB5.block _ hg5;have y0:W.cell? ⟨g5,o5+i*5,none⟩=some (.int .i64 o.at_):=by rw[ZhV hBb];exact v0
   have y1:W.cell? ⟨g5,o5+i*5+1,none⟩=some (.int .i64 o.size):=by rw[ZhV hBb];exact v1
   have y2:W.cell? ⟨g5,o5+i*5+2,none⟩=some (.int .i64 o.ptrs):=by rw[ZhV hBb];exact v2
   have y3:W.cell? ⟨g5,o5+i*5+3,none⟩=some (.bool o.gone):=by rw[ZhV hBb];exact v3
   have y4:W.cell? ⟨g5,o5+i*5+4,none⟩=some (.int .u64 o.target):=by rw[ZhV hBb];exact v4
   clear v0 v1 v2 v3 v4 hBb hcell;have HC:=Zhu hc5;clear hc5;refine LS.two (LS.regK λK hK=> ?_);go_wp2;refine LS.two (LS.condT rfl (LS.skip (LS.two (LS.block (LS.two (LS.regK λK hK=> ?_))))));go_wp2;obtain⟨W6,hW6⟩:∃W6,W6=W.alloc (.cells #[.int .i64 o.at_,.int .i64 o.size,.int .i64 o.ptrs,.bool o.gone,.int .u64 o.target] 59):=⟨_,rfl⟩;obtain⟨bo,hbo⟩:∃bo,bo=W.heap.size:=⟨_,rfl⟩;rw[<-hW6,<-hbo];have hb6:Below W.heap.size W W6:=by rw[hW6];exact(ZhL _ _).alloc (Zh1 _) _
   have q6:W6.heap[bo]?=some (.cells #[.int .i64 o.at_,.int .i64 o.size,.int .i64 o.ptrs,.bool o.gone,.int .u64 o.target] 59 (0,0)):=by rw[hW6,hbo];exact ZhH ..
   have hS6:=hS.below hb6;have hB6:=hB5.trans (hb6.mono hB5.size);clear hW6 hbo hb6 hS hB5 y0 y1 y2 y3 y4 W;have z4:∀j,W6.cell? ⟨b4,j,none⟩=(#[.int .u64 h.base,.int .i64 h.cap,.int .i64 h.to,.int .i64 h.low.length,.int .i64 h.high.length,.int .i64 h.old.length,.int .i64 h.far.length]:Array Value)[j]? :=λj=>Zhg _ _ _ _ _ _ hS6.c4;have zo:∀j,W6.cell? ⟨bo,j,none⟩=(#[.int .i64 o.at_,.int .i64 o.size,.int .i64 o.ptrs,.bool o.gone,.int .u64 o.target]:Array Value)[j]? :=λj=>Zhg _ _ _ _ _ _ q6;have HS:=Zhu (And.intro hS6 (And.intro hB6 q6));clear hS6 hB6 q6;have HA:=Zhu λW=>jX hh.lay ((p:Int)+1) o.at_ W;unfold lyA layH at HA;dsimp only at HA;refine LS.two (LS.regK λK hK=> ?_)
   go_wp2_with (first
    |(go_at_call 75;refine(HA.out _).mono ?_;rintro e W7 ⟨rfl,hb7⟩;have HB7:=Zhu hb7;clear hb7))
   have hS:=HS.out.1.below HB7.out;have hB5:=HS.out.2.1.trans (HB7.out.mono HS.out.2.1.size);have q7:=(HB7.out.block _ (ZI HS.out.2.2)).trans HS.out.2.2;clear z4 zo HS HB7 HA;rename_i W7;clear W6;obtain⟨ha0,hz0,hle⟩:=HX.out.2.2 o (Zh2 ho);have hpos:0< (lsH h p).length:=by omega
   obtain⟨bw,ow,ew,hcw,hmw⟩:=ZdL (HF.out.2 p (by omega)) hpos EP.out;subst ew
   have hdr:(obP h p).drop i=o::(obP h p).drop (i+1):=by
    obtain⟨h1,rfl⟩:=ZgX.1 ho;exact ZhR h1
   rw[hdr];rw[show(((o::(obP h p).drop (i+1)).map (fvV h x p)++fvs h x n (p+1)).map Ev.send)=.send (fvV h x p o)::(((obP h p).drop (i+1)).map (fvV h x p)++fvs h x n (p+1)).map .send from rfl];clear hdr ho hiI;have zo:∀j,W7.drew.cell? ⟨bo,j,none⟩=(#[.int .i64 o.at_,.int .i64 o.size,.int .i64 o.ptrs,.bool o.gone,.int .u64 o.target]:Array Value)[j]? :=λj=>Zhg _ _ _ _ _ _ (show W7.drew.heap[bo]?=_ from q7);have hl6:=Zat hh p;have hw1:=Z7 (o.at_+1) (by omega) (by omega);have hw2:=Z7 (o.at_+1+o.size) (by omega) (by omega);have hs1:(0:Int)<=o.at_+1:=by omega
   have hs2:o.at_+1<=o.at_+1+o.size:=by omega
   have hs3:o.at_+1+o.size<=(kp:Int):=by omega
   obtain⟨av,nv,cv,hSV⟩:∃av nv cv,.slice av nv cv=sliV (x p) (o.at_+1).toNat o.size.toNat:=by rw[EP.out];exact⟨_,_,_,rfl⟩
   have hsl:∀W,(Instr.slice 35 (.slice (some ⟨bw,ow,none⟩) (lsH h p).length kp) (some (.int .i64 (o.at_+1))) (some (.int .i64 (o.at_+1+o.size))) none).run Sol.prog W=.ok (.slice av nv cv) W:=by
    intro W;have hT:Sol.prog.underlying 35=some (.slice 24):=by kernel_rfl
    rw[hSV,EP.out,ZaY hT (by simp) hs1 hs2 hs3,show o.at_+1+o.size- (o.at_+1)=o.size by omega]
   clear hs1 hs2 hs3 zo;have zo:∀j,W7.drew.cell? ⟨bo,j,none⟩=(#[.int .i64 o.at_,.int .i64 o.size,.int .i64 o.ptrs,.bool o.gone,.int .u64 o.target]:Array Value)[j]? :=λj=>Zhg _ _ _ _ _ _ (show W7.drew.heap[bo]?=_ from q7);have HV:=Zhu hSV;clear hSV;have HS:=Zhu (And.intro hS hB5);clear hS hB5 q7;refine LS.send (n:=16) follows (by kernel_rfl) rfl rfl rfl rfl rfl rfl ?_;simp only[Zk9,ZkX];change wpStill Sol.prog _ W7.drew _ _ _
   repeat still_step
   refine wpStill_nil ⟨rfl,?_,?_⟩
   ·unfold fvV;rw[<-HV.out];rfl
   ·refine LS.inBlock ?_;have hw3:=Z7 ((i:Int)+1) (by omega) (by omega);refine LS.regK λK hK=> ?_;go_wp2;exact IH2.out m _ _ _ (by omega) ⟨i+1,_,by omega,rfl,rfl,rfl,rfl,rfl,rfl,rfl,rfl,rfl,rfl,rfl,rfl,by simp,SSt.below HS.out.1 (ZhL _ _).drew,HS.out.2.drew⟩
end Vm
end
section
namespace Vm
open Go Go.Proofs Go.Conc
open Go.RowKit (Below)
section
section
variable {c:Ctx}{B:Nat}{G Kf:Nat->Prop}{s:St}{a:Act}{w w0:World}{h:GH}{S:SS}{n0:Nat}{fix:List Nat}{T0:Array Value}{t:Nat}{v:Value}{x:V}
theorem Yl{p:Nat}(hp:p≠t):(a.put (some t) v).tmps[p]?=a.tmps[p]? :=by
 simp[Act.put,ZhB,ZiY hp]
theorem T8(ht:t<a.tmps.size):(a.put (some t) v).tmps[t]?=some v:=by
 simp[Act.put,ZhB,ht]
theorem Xy:(a.put (some t) v).tmps.size=a.tmps.size:=by simp[Act.put]
theorem ZaS{p:Nat}{k:OT}{u:Value}{T1 T2:Nat->Option Value}(hk:RelK c.P B s w h T1 p u (L4 c p k)):RelK c.P B s w h T2 p u (L4 c p k):=by
 cases k<;>exact hk
theorem RelG.set(hr:RelG c B G s a w h (Y7 c S))(hS:S.at t=none):RelG c B G s (a.put (some t) v) w h (Y7 c S):=by
 refine⟨hr.ok,λp hp hk=> ?_,λp hp=> ?_⟩
 ·by_cases e:p=t
  ·subst e;rw[Zk,hS]at hk;cases hk
  ·obtain⟨u,hu,hrel⟩:=hr.at_ p hp hk;refine⟨u,by simp_all[Yl],?_⟩;rw[Zk]at hrel⊢;cases e2:S.at p with
   |none=>rw[Zk,e2]at hk;cases hk
   |some k=>grind [ZaS]
 ·refine absurd ?_ hp;rw[Zk];cases S.at p<;>exact Ya _
theorem RelS.set(hr:RelS Kf fix T0 c B G w0 n0 s a w S)(hS:S.at t=none):RelS Kf fix (a.put (some t) v).tmps c B G w n0 s (a.put (some t) v) w S:=by
 obtain⟨⟨h,h1,h2⟩,h3,h4,h5,h6⟩:=hr;exact⟨⟨h,h1.set hS,h2⟩,h3,.refl _ _,by grind [Xy],h6⟩
theorem RelS.base(hr:RelS Kf fix T0 c B G w0 n0 s a w S):RelS Kf fix a.tmps c B G w n0 s a w S:=by
 obtain⟨h1,h3,h4,h5⟩:=hr;exact⟨h1,h3,.refl _ _,h5⟩
theorem RelS.put(hr:RelS Kf fix T0 c B G w0 n0 s a w S)(hS:S.at t=none)(hix:∀y∈S,c.ix y.1≠c.ix t)(hlt:t<n0)(hv:Rd w G x v):RelS Kf fix (a.put (some t) v).tmps c B G w n0 (putS s (c.ix t) (.v x)) (a.put (some t) v) w ((t,.fz)::S):=by
 obtain⟨⟨h,h1,h2⟩,h3,h4,h5,h6⟩:=hr;refine⟨⟨h,⟨h1.ok,λp hp hk=> ?_,λp hp=> ?_⟩,h2⟩,λp hp=> ?_,.refl _ _,by grind [Xy],h6⟩
 ·rw[Zk]at hk⊢;by_cases e:t=p
  ·subst e;simp only[SS.at,ZhC];exact⟨v,T8 (by omega),x,by simp[eval,Zo],hv.mono λb hb=>GH.ext_F (h1.ok.g_F b hb)⟩
  ·simp only[SS.at,if_neg e]at hk⊢;have hag:=(h1.set (v:=v) hS).agree (t:=putS s (c.ix t) (.v x)) λy hy=>by rw[Zo,if_neg (hix y hy)]
   cases e2:S.at p with
   |none=>rw[e2]at hk;cases hk
   |some k=>
    have:=hag.at_ p (by grind [Zk,Ya]) (by simp_all[Zk]);simp_all[Zk]
 ·refine absurd ?_ hp;rw[Zk];split<;>exact Ya _
 ·by_cases e:t=p
  ·simp_all[SS.at]
  ·simp only[SS.at,if_neg e]at hp;rw[Zo,if_neg (hix _ (Uq hp))];exact h3 p hp
end
noncomputable def cV:Ctx:= {P:=Sol.prog,ix:=(vf Sol.prog).ix,own:=λ_=>false,fresh,sig:=sigV,tr:=[3],n:=82}
theorem Qs{code:Code}{S:SS}{st:Stm}{fl:Flow}{B:Nat}{G Kf:Nat->Prop}{s:St}{a:Act}{w w0:World}{T0:Array Value}{N:St->Prop}{X:Nat->St->Prop}{Rt:St->Prop}(hc:comp (vf Sol.prog) code S=some (st,fl))(hr:RelS Kf [4,23] T0 cV B G w0 82 s a w S)(hw:wpS Sol.prog st s N X Rt):
  code.wp Sol.prog (Post Kf [4,23] T0 cV B G w0 82 fl N X Rt) a w:=
 SL (fc:=vf Sol.prog) follows (λp hp q hq he=>Z18 (ZiF _ hp) (ZiF _ hq) he) rfl rfl rfl (Zh1 _) code (QH (λ_=>trivial) code) hc hr hw
noncomputable def bodyC:Code:=cAt ofC [1,1,1,1,1,1,1,0,1,0,0]
noncomputable def ops9:Array Oper:=Z6k (cAt ofC [1,1,1,1,1,1,1,0,1,0,0,0])
theorem Zf5:bodyC=.seq (.region 9 ops9 false) (cAt ofC [1,1,1,1,1,1,1,0,1,0,0,1]):=by kernel_rfl
theorem ZaU:cAt ofC [1,1,1,1]=.seq (cAt ofC [1,1,1,1,0]) (.seq (cAt ofC [1,1,1,1,1,0]) (.seq (cAt ofC [1,1,1,1,1,1,0]) (.seq (.seq (cAt ofC [1,1,1,1,1,1,1,0,0]) (.block 0 (.loop bodyC))) (cAt ofC [1,1,1,1,1,1,1,1])))):=by kernel_rfl
noncomputable def ops8:Array Oper:=Z6k (cAt ofC [1,1,1,1,1,1,1,0,0])
theorem ZfI:cAt ofC [1,1,1,1,1,1,1,0,0]=.region 8 ops8 false:=by kernel_rfl
def zF:Value:=.agg #[.int .i64 0,.int .i64 0,.int .i64 0,.bool false,.int .u64 0,.int .u64 0,.slice none 0 0]
theorem Zdt:∃t ch d inf o,ops9[0]?=some o/\o.guard=none/\o.dst=some 24/\o.op=.recv t ch true/\ch=.tmp 23/\Sol.prog.underlying t=some (.chan d 87)/\Sol.prog.info? 87=some inf/\inf.zero=some zF:=
 ⟨_,_,_,_,_,rfl,rfl,rfl,rfl,rfl,rfl,rfl,rfl⟩
theorem Zdu:∃o,ops9[1]?=some o/\o.guard=none/\o.dst=some 25/\o.op=.extract (.tmp 24) 1:=⟨_,rfl,rfl,rfl,rfl⟩
theorem Z6i:ops9.size=2:=rfl
def rLS:SS:=[(1,.mem [.fz,.fz,.fz,.fz,.fz,.fz,.fz,.fz,.fz,.fz]),(2,.mem [.fz,.fz]),(3,.fz),(5,.own 87),(6,.mem [.own 84]),(7,.mem [.own 85])]
structure AtL (B:Nat) (G:Nat->Prop) (wS:World) (c:Nat) (st:Vw) (hc:List V) (s:St) (a:Act) (w:World):Prop where
 rel:∃T0 w0,RelS G [4,23] T0 cV B G w0 82 s a w rLS
 same:Same G wS w
 ch:a.tmps[23]?=some (.chan (some c))
 s1:get s 1=.m hc
 s6:get s 6=.v (.sl (st.ns.map foV))
 s7:get s 7=.m [mpA vi st.nm]
 s8:get s 8=.m [mpA vu st.tm]
theorem AtL.put{B:Nat}{G:Nat->Prop}{wS:World}{c:Nat}{st:Vw}{hc:List V}{s:St}{a:Act}{w:World}(h:AtL B G wS c st hc s a w){v:Value}{x:V}{b:Bool}(hv:Rd wS G x v):
  ∃a2 s2 T0 w0,a2=(a.put (some 24) (.tuple #[v,.bool b])).put (some 25) (.bool b)/\RelS G [4,23] T0 cV B G w0 82 s2 a2 w rDS/\a2.tmps[23]?=some (.chan (some c))/\get s2 1=.m hc/\get s2 6=.v (.sl (st.ns.map foV))/\get s2 7=.m [mpA vi st.nm]/\get s2 8=.m [mpA vu st.tm]/\get s2 12=.v (.tup [x,.bool b])/\get s2 10=.v (.bool b):=by
 obtain⟨T0,w0,hr⟩:=h.rel
 have hv':Rd w G (.tup [x,.bool b]) (.tuple #[v,.bool b]):=by
  refine .tup _ _ rfl λi c hi=> ?_
  match i,hi with
  |0,hi=>cases hi;exact hv.keep h.same λ_ q=>q
  |1,hi=>cases hi;exact .bool _
 have h1:=hr.put (t:=24) rfl (by decide+kernel) (by omega) hv';have h2:=h1.put (t:=25) (v:=.bool b) (x:=.bool b) rfl (by decide+kernel) (by omega) (.bool _);have i24:cV.ix 24=12:=by decide+kernel
 have i25:cV.ix 25=10:=by decide+kernel
 rw[i24,i25]at h2;refine⟨_,_,_,_,rfl,h2.weak (R:=rDS) (by kernel_rfl),?_,?_,?_,?_,?_,?_,?_⟩
 ·rw[Yl (by omega),Yl (by omega)];exact h.ch
 all_goals simp[Zo,h.s1,h.s6,h.s7,h.s8]
theorem Z6B{B:Nat}{G:Nat->Prop}{wS:World}{c:Nat}{hc:List V}{k:List Item}{b:Frame}{Post:Frame->List Frame->World->Prop}(fin:Vw)
  (hz:Rd wS G (foV ⟨⟨0,0,0,false,0⟩,0,[]⟩) zF)
  (hend:∀s a w T0 w0,RelS G [4,23] T0 cV B G w0 82 s a w rDX->get s 1=.m hc->get s 6=.v (.sl (fin.ns.map foV))->get s 7=.m [mpA vi fin.nm]->get s 8=.m [mpA vu fin.tm]->LS Sol.prog c Post [] (b.at a k) [] w):
  ∀(fs:List (Fo×Value)) (st:Vw),(∀y∈fs,Rd wS G (foV y.1) y.2)->st.ns.length+fs.length<=4000000->(fs.map (·.1)).foldl Vw.put st=fin->∀s a w,AtL B G wS c st hc s a w->
   LS Sol.prog c Post (fs.map (λy=>.recv y.2)++[.closed zF]) (b.at a (.code bodyC:: .inLoop bodyC:: .inBlock 0::k)) [] w:=by
 obtain⟨t,ch,d,inf,o,o1,o2,o3,o4,o5,o6,o7,o8⟩:=Zdt;obtain⟨o',p1,p2,p3,p4⟩:=Zdu
 have ext:∀(a:Act) (w:World) (v:Value) (b:Bool),a.tmps[24]?=some (.tuple #[v,.bool b])->(execOp a.eval o').run Sol.prog w=.ok (.value (.bool b)) w:=λa w v b h=>by
  have he:a.eval (.tmp 24)=.tuple #[v,.bool b]:=Act.eval_tmp a 24 _ h;unfold execOp;simp only[p4,he];rfl
 have enter:∀ {es:List Ev} {e:Ev} {v:Value} {fl:Bool} {s:St} {st:Vw} {a:Act} {w:World},e.val=.tuple #[v,.bool fl]->((∃v,e=.recv v)\/e=.closed zF)->AtL B G wS c st hc s a w->
   LS Sol.prog c Post es (b.at ((a.put (some 24) (.tuple #[v,.bool fl])).put (some 25) (.bool fl)) (.code (cAt ofC [1,1,1,1,1,1,1,0,1,0,0,1]):: .inLoop bodyC:: .inBlock 0::k)) [] w->
   LS Sol.prog c Post (e::es) (b.at a (.code bodyC:: .inLoop bodyC:: .inBlock 0::k)) [] w:=λ{es e v fl s st a w} hev hcl hA hk=>by
  obtain⟨T0,w0,hr⟩:=hA.rel;have hsz:a.tmps.size=82:=hr.2.2.2.1;rw[show(Item.code bodyC)=.code (.seq (.region 9 ops9 false) (cAt ofC [1,1,1,1,1,1,1,0,1,0,0,1]))by rfl];refine LS.two (LS.region ?_);rw[Z6i,show List.range 2=[0,1]from rfl];refine LS.event (i:=0) o1 (by simp[Region.wanted,o2]) ?_ ?_
  ·rcases hcl with ⟨v,rfl⟩|rfl
   ·exact⟨t,ch,d,_,inf,zF,o4,by rw[o5];rfl,by rw[o5];exact Act.eval_tmp a 23 _ hA.ch,o6,o7,o8,λz' e=>by cases e⟩
   ·exact⟨t,ch,d,_,inf,zF,o4,by rw[o5];rfl,by rw[o5];exact Act.eval_tmp a 23 _ hA.ch,o6,o7,o8,λz' e=>by grind⟩
  ·rw[o3,hev];refine LS.value (i:=1) p1 (by simp[Region.wanted,p2]) (ext _ w v fl (T8 (by omega))) ?_;simp_all[LS.regEnd]
 intro fs
 induction fs with
 |nil=>
  intro st hfs hn hfin s a w hA;refine enter (v:=zF) (fl:=false) rfl (.inr rfl) hA ?_;obtain⟨a2,s2,T0,w0,rfl,hr,h23,h1,h6,h7,h8,h12,h10⟩:=hA.put (b:=false) hz;refine LS.wp (Qs rDc hr (ZdH (N:=λ_=>False) (R:=λ_=>False) (X:=λid s'=>id=0/\s'=s2) h10 ⟨rfl,rfl⟩)) λe a' w' hp=> ?_;cases e with
  |normal=>obtain⟨_,_,_,h,_⟩:=hp;grind
  |exit id=>
   obtain⟨s',S',hx,⟨rfl,rfl⟩,hr'⟩:=hp;have hS:S'=rDX:=by simpa using hx
   subst hS;refine⟨k,rfl,?_⟩
   grind
  |ret=>obtain⟨_,_,_,h,_⟩:=hp;grind
  |_=>exact hp.elim
 |cons y fs ih=>
  intro st hfs hn hfin s a w hA;simp only[Zi0]at hn;refine enter (v:=y.2) (fl:=true) rfl (.inl ⟨_,rfl⟩) hA ?_;obtain⟨a2,s2,T0,w0,rfl,hr,h23,h1,h6,h7,h8,h12,h10⟩:=hA.put (b:=true) (hfs y (by simp));refine LS.wp (Qs rDc hr.base (ZfK (X:=λ_ _=>False) (R:=λ_=>False) (N:=λs'=>get s' 6=.v (.sl ((st.put y.1).ns.map foV))/\get s' 7=.m [mpA vi (st.put y.1).nm]/\get s' 8=.m [mpA vu (st.put y.1).tm]/\get s' 1=.m hc) h6 h7 h8 h12 h10 (by omega) λs' q6 q7 q8 q1 _ _=>⟨q6,q7,q8,q1.trans h1⟩)) λe a' w' hp=> ?_;cases e with
  |normal=>
   obtain⟨s',S',hS,⟨q6,q7,q8,q1⟩,hr'⟩:=hp;cases hS;refine LS.inLoop (ih (st.put y.1) (λz hz=>hfs z (by simp[hz])) ?_ hfin s' a' w' ⟨⟨_,_,hr'.weak (R:=rLS) (by kernel_rfl)⟩,hA.same.trans hr'.2.2.1.same,?_,q1,q6,q7,q8⟩)
   ·grind [Vw.put]
   ·rw[hr'.2.2.1.fix 23 (by simp)];exact h23
  |exit id=>obtain⟨_,_,_,h,_⟩:=hp;grind
  |ret=>obtain⟨_,_,_,h,_⟩:=hp;grind
  |_=>exact hp.elim
def Zbu(b:Frame)(D:World->Nat->Prop)(r:V)(fr:Frame)(cs:List Frame)(w:World):Prop:=
 cs=[]/\∃(a:Act) (todo:List Item),fr= {b.at a todo with mode:=.returning}/\a.defers=[]/\∃v,(results Try.f15 a.tmps).run Sol.prog w=.ok v w/\Rd w (D w) r v
theorem Z1C{code:Code}{S:SS}{st:Stm}{S2:SS}{B:Nat}{G Kf:Nat->Prop}{s:St}{a:Act}{w w0:World}{T0:Array Value}{N:St->Prop}{c:Nat}{Pst:Frame->List Frame->World->Prop}{es:List Ev}{b:Frame}{k:List Item}(hc:comp (vf Sol.prog) code S=some (st,⟨some S2,[],[]⟩))(hr:RelS Kf [4,23] T0 cV B G w0 82 s a w S)
  (hw:wpS Sol.prog st s N (λ_ _=>False) (λ_=>False)) (hk:∀s' a' w',N s'->RelS Kf [4,23] T0 cV B G w0 82 s' a' w' S2->LS Sol.prog c Pst es (b.at a' k) [] w'):LS Sol.prog c Pst es (b.at a (.code code::k)) [] w:=
 LS.wp (Qs hc hr hw) λe a' w' hp=>by
  cases e with
  |normal=>obtain⟨s',S',hS,hN,hr'⟩:=hp;cases hS;exact hk _ _ _ hN hr'
  |exit id=>obtain⟨_,_,_,h,_⟩:=hp;grind
  |ret=>obtain⟨_,_,_,h,_⟩:=hp;grind
  |_=>exact hp.elim
theorem Zds:∃o,ops8[0]?=some o/\o.guard=none/\o.dst=some 23/\o.op=.move (.tmp 4):=⟨_,rfl,rfl,rfl,rfl⟩
theorem Z6h:ops8.size=1:=rfl
theorem ZaF{B:Nat}{G:Nat->Prop}{c:Nat}{b:Frame}{s:St}{a:Act}{w w0:World}{T0:Array Value}{bs cp tt y sc x5 x6 x7 x8:V}{roots:List Int}{fs:List (Fo×Value)}{fin:Vw}(hr:RelS G [4,23] T0 cV B G w0 82 s a w r5S)(hch:a.tmps[4]?=some (.chan (some c)))(h1:get s 1=.m [bs,cp,tt,y,sc,x5,x6,x7,x8,.sl (roots.map vu)])
  (hfs:∀y∈fs,Rd w G (foV y.1) y.2) (hn:fs.length<=4000000) (hfin:(fs.map (·.1)).foldl Vw.put ⟨[],[],[]⟩=fin) (hs:fin.sm roots):
  LS Sol.prog c (Zbu b (λw' x=>G x\/(B<=x/\x<w'.heap.size)) (XA (fin.gr roots))) (fs.map (λy=>.recv y.2)++[.closed zF]) (b.at a [.code (cAt ofC [1,1,1,1])]) [] w:=by
 rw[ZaU];refine LS.two (Z1C r5c hr.base (N:=λs'=>get s' 6=.v (.sl [])/\get s' 1=get s 1) (by simp[r5,Zo]) λs1 a1 w1 ⟨q6,q1⟩ hr1=> ?_);refine LS.two (Z1C r6c hr1.base (N:=λs'=>get s' 7=.m [mpA vi []]/\get s' 6=.v (.sl [])/\get s' 1=get s 1) (by simp[r6,Zo,q6,q1];rfl) λs2 a2 w2 ⟨t7,t6,t1⟩ hr2=> ?_);refine LS.two (Z1C r7c hr2.base (N:=λs'=>get s' 8=.m [mpA vu []]/\get s' 7=.m [mpA vi []]/\get s' 6=.v (.sl [])/\get s' 1=get s 1) (by simp[r7,Zo,t7,t6,t1];rfl) λs3 a3 w3 ⟨u8,u7,u6,u1⟩ hr3=> ?_)
 have hch3:a3.tmps[4]?=some (.chan (some c)):=by
  rw[hr3.2.2.1.fix 4 (by simp),hr2.2.2.1.fix 4 (by simp),hr1.2.2.1.fix 4 (by simp)];exact hch
 have hsame:Same G w w3:=(hr1.2.2.1.same.trans hr2.2.2.1.same).trans hr3.2.2.1.same;refine LS.two (LS.two ?_);rw[ZfI];refine LS.region ?_;rw[Z6h,show List.range 1=[0]from rfl];obtain⟨o,o1,o2,o3,o4⟩:=Zds;have hev:a3.eval (.tmp 4)=.chan (some c):=Act.eval_tmp a3 4 _ hch3;refine LS.value (v:=.chan (some c)) (w':=w3) o1 (by simp[Region.wanted,o2]) (by simp_all[execOp]) (LS.regEnd ?_);rw[o3];have hr4:=hr3.set (t:=23) (v:=.chan (some c)) rfl;have hsz:a3.tmps.size=82:=hr3.2.2.2.1;refine LS.block (LS.steps (.one step_loop) ?_);refine Z6B (hc:=[bs,cp,tt,y,sc,x5,x6,x7,x8,.sl (roots.map vu)]) fin (wS:=w) (B:=B) (G:=G) ?_ ?_ fs ⟨[],[],[]⟩ hfs (by grind) hfin s3 _ w3 ⟨⟨_,_,hr4.weak (R:=rLS) (by kernel_rfl)⟩,hsame,T8 (by omega),u1.trans h1,u6,u7,u8⟩
 ·refine .agg _ _ rfl (by simp) λi x hi=> ?_
  match i,hi with
  |0,hi=>cases hi;exact .int _ _
  |1,hi=>cases hi;exact .int _ _
  |2,hi=>cases hi;exact .int _ _
  |3,hi=>cases hi;exact .bool _
  |4,hi=>cases hi;exact .int _ _
  |5,hi=>cases hi;exact .int _ _
  |6,hi=>cases hi;exact .nil _ _ (Zia _)
 ·intro s5 a5 w5 T5 w05 hr5 v1 v6 v7 v8;refine LS.wp (Qs rCc ((hr5.weak (R:=rCS) (by kernel_rfl)).base) (ZfJ (N:=λ_=>False) (X:=λ_ _=>False) (R:=λs'=>resV s' [(2,.ag 2),(3,.v)]=some (XA (fin.gr roots))) hs v1 v6 v7 v8 λs' h=>h)) λe a' w' hp=> ?_;cases e with
  |normal=>obtain⟨_,_,_,h,_⟩:=hp;grind
  |exit id=>obtain⟨_,_,_,h,_⟩:=hp;grind
  |ret=>
   obtain⟨s',S',hS,hR,hr'⟩:=hp;have hS:S'=rCR:=by simpa using hS
   subst hS;obtain⟨⟨h,k1,k2⟩,k3,k4,k5,k6⟩:=hr';intro todo
   obtain⟨v,hv,hvr⟩:=V8 (c:=cV) (f:=Try.f15) (D:=λx=>G x\/(B<=x/\x<w'.heap.size)) k1 k3 (λx hx=>by
    rcases k1.ok.f_or x hx with h1|h1
    ·grind
    ·exact .inr ⟨h1,k1.ok.f_lt x hx⟩) (λr hr=>⟨Zh5.1 (show(Try.f15.results.toList.all (j5 Sol.prog rCR))=true by kernel_rfl) r hr,λi x hx=>.inr ⟨(k1.ok.b_lt _ _ x hx).1,(k1.ok.b_lt _ _ x hx).2.1⟩⟩) (x:=XA (fin.gr roots)) (by rw[<-hR];rfl)
   exact LS.now ⟨rfl,a',todo,rfl,k6,v,hv,hvr⟩
  |_=>exact hp.elim
end
section
theorem Z4U:∃o ats,clOps[1]?=some o/\o.guard=none/\o.dst=none/\o.op=.call ⟨.builtin .close, #[.tmp 70],ats⟩:=⟨_,_,rfl,rfl,rfl,rfl⟩
section
variable {b:Frame}{a:Act}{c:Nat}{w:World}
theorem Z3o{cs:List Frame}(hb:b.fn=42)(hk:b.kind≠.early)(ha:a.tmps[70]?=some (.chan (some c))){s r:Nat}{tm:Bool}(hc:w.heap[c]?=some (.chan 0 #[] false s r tm)):
  stepG Try.prog false (G (b.at a [.inRegion clOps [1]]) cs) w=.go (G (b.at a [.inRegion clOps []]) cs) (cput w c (.chan 0 #[] true s r tm)) #[⟨.obj c,false,true⟩,⟨.obj c,true,true⟩]:=by
 obtain⟨o,ats,h1,h2,h3,h4⟩:=Z4U;have hev:a.eval (.tmp 70)=.chan (some c):=Act.eval_tmp a 70 _ ha
 have e0:execOp a.eval o=(do pure (.value (<-Builtin.close_ ats o.type #[.chan (some c)])):Sem Next):=by
  unfold execOp;simp only[h4];simp[resolve,builtin,hev];rfl
 have hr:(execOp a.eval o).run Try.prog w=.ok (.value (.tuple #[])) (cput w c (.chan 0 #[] true s r tm)):=by
  rw[e0];simp only[Zht,run_close_open ats o.type hc,Zhs];rfl
 have he:(execOp a.eval o).events Try.prog w #[]=#[⟨.obj c,false,true⟩,⟨.obj c,true,true⟩]:=by
  rw[e0]
  have h2:(Builtin.close_ ats o.type #[.chan (some c)]).runT Try.prog w #[]=(.ok (.tuple #[]) (cput w c (.chan 0 #[] true s r tm)), #[⟨.obj c,false,true⟩,⟨.obj c,true,true⟩]):=by
   refine Zjf ?_ (events_close_open ats o.type hc);rw[ZiD];exact run_close_open ats o.type hc
  show((Sem.bind _ _).runT Try.prog w #[]).2=_;rw[ZiH,h2];rfl
 rw[stepG_value h1 (by simp[Region.wanted,h2]) hk hr];have e1:a.put o.dst (.tuple #[])=a:=by rw[h3];rfl
 rw[e1];unfold listed;rw[he,seen_eq (by rw[hb,Try.func42];rfl) (by simp)]
noncomputable def bornF:Frame:= {(default:Frame)with fn:=Try.prog.funcs.size,defers:=[],mode:=.panicking [goexitEntry]}
theorem Z46(hb:b= {base 42 with kind:=.deferred})(hd:a.defers=[]):QuitsIn Try.prog 4 (G (b.at a [.inRegion clOps []]) [bornF]):=by
 subst hb;refine .ctl (g':=G (({base 42 with kind:=.deferred}:Frame).at a []) [bornF]) rfl (λw=>by simp[G,stepG,stepG.exec,Frame.at]) ?_;refine .ctl (g':=G {(({base 42 with kind:=.deferred}:Frame).at a [])with mode:=.returning} [bornF]) rfl (λw=>by simp[G,stepG,stepG.exec,Frame.at]) ?_;refine .ctl (g':=G bornF []) rfl (λw=> ?_) ?_
 ·have hf:=Try.func42;simp[G,stepG,unwind,Frame.at,hd,base,hf,results,Try.results42,doReturn,bornF,goexitEntry];rfl
 ·refine .ctl (g':= {(G bornF [])with status:=.finished}) rfl (λw=> ?_) rfl;simp[G,stepG,unwind,bornF,goexitEntry,Frame.catches];rfl
end
theorem Z8e(l:List Int):NoM (.sl (l.map vu)):=.sl _ λc hc=>by
 have:flat (l.map vu)=l.map vu:=YJ λx hx=>by obtain⟨y,_,rfl⟩:=Zh8.1 hx;rfl
 rw[this]at hc;obtain⟨y,_,rfl⟩:=Zh8.1 hc;exact .int _ _
theorem Za4{n:Nat}{v:Value}(h:FixV n v)(lo m:Nat):FixV n (sliV v lo m):=by
 intro ρ hρ;have h1:=h ρ hρ;unfold sliV;split
 ·rename_i b o q k c;simp only[ren,Zha,renA,Value.slice.injEq,ZgT,Addr.mk.injEq,and_true]at h1;split<;>simp[ren,renA,h1]
 ·exact h1
theorem Z9f{n:Nat}{h:Hp}{x:Nat->Value}{p:Nat}(hx:FixV n (x p))(o:Ob):FixV n (fvV h x p o):=by
 intro ρ hρ;have:=Za4 hx (o.at_+1).toNat o.size.toNat ρ hρ;unfold fvV;rw[Yg];simp[ZX,Yz,this]
theorem Z0o{h:Hp}{x:Nat->Value}{v:Value}:∀ {n p:Nat},v∈fvs h x n p->∃q o,q<p+n/\v=fvV h x q o
 |0,p,hv=>by simp[fvs]at hv
 |n+1,p,hv=>by
  simp only[fvs,Zhn,Zh8]at hv;rcases hv with ⟨o,_,rfl⟩|hv
  ·exact⟨p,o,by omega,rfl⟩
  ·obtain⟨q,o,h1,h2⟩:=Z0o hv;exact⟨q,o,by omega,h2⟩
def bD:Frame:= {base 42 with kind:=.deferred}
theorem Z0h(args:Array Value):Frame.enter Try.prog 42 args .deferred=bD.at {tmps:=args++Array.replicate (71-args.size) undef,defers:=[]} [.code seC]:=by
 simp[Frame.enter,Frame.at,Try.func42,Z2G,bD,base,Try.ntmps42]
theorem Z9D:ZR Sol.prog false seC=true:=by kernel_rfl
theorem Z4L:Sol.prog.funcs[Try.prog.funcs.size]?=none:=by
 apply Zjc;simp[Sol.prog,VK]
theorem Z3n{c n0:Nat}{h:Hp}{x:Nat->Value}{K:Nat->Prop}{w:World}(hh:h.ok)(hn0:w.heap.size<=n0)(hc:c<n0)(hK:∀b,K b->∃cs e fr,w.heap[b]?=some (.cells cs e fr))(hKf:∀b o,w.heap[b]?=some o->K b->FixO n0 o)
  (hx:∀j,j<5->FixV n0 (x j)) (hr:∀j,j<5->Rd w K (.sl ((lsH h j).map vu)) (x j))
  (hob:∀p,p<4->(obP h p).length<=1000000/\∀o∈obP h p,0<=o.at_/\0<=o.size/\o.at_+1+o.size<=(lsH h p).length):
  Play Try.prog false c K (XU Try.prog c) ((fvs h x 4 0).map .send) (λ_=>False) (born Try.prog {target:=.fn (.func 42) #[],args:=#[hpA h x,.chan (some c)]}) w:=by
 have hKl:∀b,K b->b<w.heap.size:=λb hb=>by obtain⟨_,_,_,e⟩:=hK b hb;exact(Zh0.1 e).1
 have hst:∀w1:World,stepG Try.prog false (born Try.prog {target:=.fn (.func 42) #[],args:=#[hpA h x,.chan (some c)]}) w1=.go (G (Frame.enter Try.prog 42 #[hpA h x,.chan (some c)] .deferred) [bornF]) w1 #[]:=λw1=>by
  have hn:¬Try.f42.name= "runtime.NumGoroutine" :=by decide+kernel
  have hb:¬Try.f42.body=none:=by rw[Z2G];simp
  simp[stepG,born,unwind,callDeferred,invoke,callFunc,G,bornF,hn,hb];rfl
 refine .step (λw1 hw1=>⟨_,_,_,_,hst w1,Zh1 _,Zh1 _,rfl,rfl,λ_ _ _=>rfl,λe he=>by simp at he⟩) λw1 g' w' es' hw1 e=> ?_;have e:=(hst w1).symm.trans e;injection e with e1 e2 e3;subst e1 e2;have hg:(grow (λ_=>False) w1 w1:Nat->Prop)=λ_=>False:=funext λb=>propext ⟨λhb=>by rcases hb with hb|hb;exact hb;omega,λhb=>hb.elim⟩;rw[hg];refine Play.rely ?_ hw1
 let X:Cx:=cxS Try.prog Sol.prog n0 K (λ_=>False)
 have hXP:X.P=Try.prog:=Sol.sub.P n0 K (λ_=>False)
 have hargs:∀v∈ #[hpA h x,.chan (some c)],FixV n0 v:=λv hv=>by
  have:v=hpA h x\/v=.chan (some c):=by simpa using hv
  rcases this with rfl|rfl
  ·intro ρ hρ;unfold hpA;rw[Yg];simp[ZX,Yz,hx 0 (by omega) ρ hρ,hx 1 (by omega) ρ hρ,hx 2 (by omega) ρ hρ,hx 3 (by omega) ρ hρ,hx 4 (by omega) ρ hρ]
  ·intro ρ hρ;simp[ren,hρ c hc]
 have hbf:∀ρ,renF ρ bornF=bornF:=λρ=>by
  simp[renF,bornF,renM,jq,goexitEntry,Xh];exact⟨by show Array.map (ren ρ) #[]=#[];simp,rfl,rfl⟩
 have hw:=Zbd X (Sol.sub.ok n0 K (λ_=>False)) (c:=c) (es:=(fvs h x 4 0).map .send) (fr:=Frame.enter Try.prog 42 #[hpA h x,.chan (some c)] .deferred) (cs:=[bornF]) (ds:=[]) (main:=false) (wc:=w)
  (λe he=>by
   obtain⟨v,hv,rfl⟩:=Zh8.1 he;obtain⟨q,o,hq,rfl⟩:=Z0o hv;exact⟨Z9f (hx q (by omega)) o,hc⟩)
  (λρ=>by
   rw[Z0h];refine⟨⟨λi hi=> ?_,λd hd=>by simp[Frame.at]at hd,.inr rfl,.inl ⟨_,seC,Sol.func42,Try.func42,Z2G,Z9D⟩⟩,λf hf=> ?_,rfl⟩
   ·have:i=.code seC:=by simpa[Frame.at]using hi
    subst this;exact Z9D
   ·have:f=bornF:=by simpa using hf
    subst this;exact⟨λi hi=>(by cases hi),λd hd=>(by cases hd),.inl rfl,.inr (.inl ⟨Z4L,Zjc (Zh1 _)⟩)⟩)
  (λf hf=>by
   have:f=Frame.enter Try.prog 42 #[hpA h x,.chan (some c)] .deferred\/f=bornF:=by simpa using hf
   rcases this with rfl|rfl
   ·rw[Z0h];intro ρ hρ
    have e1:(#[hpA h x,.chan (some c)]++Array.replicate (71- (#[hpA h x,.chan (some c)]:Array Value).size) undef).map (ren ρ)=#[hpA h x,.chan (some c)]++Array.replicate (71- (#[hpA h x,.chan (some c)]:Array Value).size) undef:=by
     rw[ZiQ,VY hargs ρ hρ];simp[Xh]
    simp only[renF,Frame.at,e1];simp[renI,renM,bD,base]
   ·exactλρ _=>hbf ρ)
  (λb o ho hO=>by
   rcases hO with hO|hO
   ·exact hO.elim
   ·exact hKf b o ho hO)
  (Post:=λwl=>AtCl c bD [bornF])
  (λt=>by
   rw[Z0h]
   exact Zb0 bD [bornF] (X.mask w t) h hh x c K (λb hb=>by simpa[Cx.mask,X,cxS]using Zh6 (hKl b hb) hn0)
    (λj hj=>Z6z (X:=X) (λb h=>h) (λb c e fr hg hc=>hg) hn0 (hr j hj) (Z8e _)) hob)
 have hw:Play Try.prog false c K _ ((fvs h x 4 0).map .send) (λ_=>False) (G (Frame.enter Try.prog 42 #[hpA h x,.chan (some c)] .deferred) ([bornF]++[])) w:=hXP▸hw;refine hw.mono λO g w' ⟨ρ,t,fr',cs',wl',fc,cc,hg,hid,⟨hcs,a,hfr,h70,hd⟩,hwv⟩=> ?_;subst hg hcs hfr;have htop:fc=renF ρ (bD.at a [.inRegion clOps [1]]):=hwv.top;have hund:cc=[bornF].map (renF ρ)++[]:=hwv.under
 have e1:fc=bD.at {tmps:=a.tmps.map (ren ρ),defers:=[]} [.inRegion clOps [1]]:=by
  rw[htop];simp[renF,Frame.at,hd,renM,renI,bD,base]
 have e2:cc=[bornF]:=by rw[hund];simp[hbf]
 rw[e1,e2]
 have h70':(a.tmps.map (ren ρ))[70]?=some (.chan (some c)):=by
  rw[Zhj,h70];simp[ren,hid c hc]
 refine⟨rfl,?_,_,4,λs r tm hcc=>Z3o rfl (by simp[bD]) h70' hcc,Z46 rfl rfl⟩;obtain⟨o,ats,o1,o2,o3,o4⟩:=Z4U;simp[mayWake,G,Frame.at,bD,base,o1,o4]
end
inductive NoZ:V->Prop where
 |int (k:IntKind) (n:Int):NoZ (.int k n)
 |bool (b:Bool):NoZ (.bool b)
 |sl (l:List V):(∀y∈l,y.cells≠[])->(∀c∈flat l,NoZ c)->NoZ (.sl l)
 |agg (l:List V):(∀c∈l,NoZ c)->NoZ (.agg l)
 |tup (l:List V):(∀c∈l,NoZ c)->NoZ (.tup l)
def NoZ.m{x:V}(h:NoZ x):NoM x:=by
 induction h with
 |int k n=>exact .int k n
 |bool b=>exact .bool b
 |sl l _ _ ih=>exact .sl l ih
 |agg l _ ih=>exact .agg l ih
 |tup l _ ih=>exact .tup l ih
def ZfL{w:World}{D:Nat->Prop}{x:V}{v:Value}(h:Rd w D x v)(hm:NoZ x):Rd w (λb=>D b/\b<w.heap.size) x v:=by
 induction h with
 |int k n=>exact .int k n
 |bool b=>exact .bool b
 |nil a cap hc=>exact .nil a cap hc
 |sl l b o cap k vs h1 h2 h3 h4 h5 h6 ih=>
  cases hm with
  |sl _ hz hm=>
   cases l with
   |nil=>exact .nil _ cap h2
   |cons y l=>
    have hk:0<k:=by
     rw[<-(h4 y (by simp)).1];exact Zk8.2 (hz y (by simp))
    have hlt:=zc (h5 0 (by simp_all));exact .sl _ b o cap k vs h1 h2 ⟨h3,hlt⟩ h4 h5 λi c hi=>ih i c hi (hm c (TW hi))
 |agg cs vs h1 h2 _ ih=>
  cases hm with
  |agg _ hm=>exact .agg cs vs h1 h2 λi c hi=>ih i c hi (hm c (Zh2 hi))
 |tup l vs h1 _ ih=>
  cases hm with
  |tup _ hm=>exact .tup l vs h1 λi c hi=>ih i c hi (hm c (Zh2 hi))
 |_=>cases hm
def ZaR{w:World}{D:Nat->Prop}{x:V}{v:Value}(h:Rd w D x v)(hm:NoZ x):Rd w (λb=>D b/\∃cs e fr,w.heap[b]?=some (.cells cs e fr)) x v:=by
 induction h with
 |int k n=>exact .int k n
 |bool b=>exact .bool b
 |nil a cap hc=>exact .nil a cap hc
 |sl l b o cap k vs h1 h2 h3 h4 h5 h6 ih=>
  cases hm with
  |sl _ hz hm=>
   cases l with
   |nil=>exact .nil _ cap h2
   |cons y l=>
    have hk:0<k:=by
     rw[<-(h4 y (by simp)).1];exact Zk8.2 (hz y (by simp))
    obtain⟨_,c,e,fr,hb,_⟩:=WN (h5 0 (by simp_all));exact .sl _ b o cap k vs h1 h2 ⟨h3,c,e,fr,hb⟩ h4 h5 λi c hi=>ih i c hi (hm c (TW hi))
 |agg cs vs h1 h2 _ ih=>
  cases hm with
  |agg _ hm=>exact .agg cs vs h1 h2 λi c hi=>ih i c hi (hm c (Zh2 hi))
 |tup l vs h1 _ ih=>
  cases hm with
  |tup _ hm=>exact .tup l vs h1 λi c hi=>ih i c hi (hm c (Zh2 hi))
 |_=>cases hm
def Zdc(l:List Int):NoZ (.sl (l.map vu)):=.sl _ (λy hy=>by obtain⟨z,_,rfl⟩:=Zh8.1 hy;simp) λc hc=>by
 rw[YJ λx hx=>by obtain⟨y,_,rfl⟩:=Zh8.1 hx;rfl]at hc;obtain⟨y,_,rfl⟩:=Zh8.1 hc;exact .int _ _
def Zdb(l:List Int):NoZ (.sl (l.map vi)):=.sl _ (λy hy=>by obtain⟨z,_,rfl⟩:=Zh8.1 hy;simp) λc hc=>by
 rw[YJ λx hx=>by obtain⟨y,_,rfl⟩:=Zh8.1 hx;rfl]at hc;obtain⟨y,_,rfl⟩:=Zh8.1 hc;exact .int _ _
def Z9n(g:Gr):NoZ (grV g):=.agg _ λc hc=>by
 have:c=.sl (g.nodes.map ndV)\/c=.sl (g.roots.map vi):=by simpa using hc
 rcases this with rfl|rfl
 ·refine .sl _ (λy hy=>by obtain⟨z,_,rfl⟩:=Zh8.1 hy;simp) λc hc=> ?_;obtain⟨y,hy,hc⟩:=Ziw.1 hc;obtain⟨n,_,rfl⟩:=Zh8.1 hy;have:c=.sl (n.ptrs.map vi)\/c=.sl (n.data.map vu):=by simpa using hc
  rcases this with rfl|rfl
  ·exact Zdb _
  ·exact Zdc _
 ·exact Zdb _
def qW(g:Gr):NoZ (XA g):=by
 unfold XA;split
 all_goals
  refine .tup _ λc hc=> ?_;simp only[Zhe,Zij,ZjL]at hc;rcases hc with rfl|rfl
  ·exact Z9n _
  ·exact .int _ _
def Z68(h:Hp):NoM (hpV h):=.agg _ λc hc=>by
 simp only[Zhe,Zij,ZjL]at hc;rcases hc with rfl|rfl|rfl|rfl|rfl|rfl|rfl|rfl|rfl|rfl
 all_goals first|exact .int _ _|exact .bool _|exact Z8e _
noncomputable def ops4:Array Oper:=Z6k (cAt ofC [1,1,1,0])
def ZaH:(ops4.all λo=>okOp Sol.prog false o.op)=true:=by kernel_rfl
def ZaV:ZR Sol.prog false (cAt ofC [1,1,1,1])=true:=by kernel_rfl
def Zdh:Sol.prog.funcs[15]?=some (refF Try.f15):=by
 have:=Try.func15;simp only[Sol.prog,VK,ZjR,this,Zha];rfl
def Z2j{X:Cx}{w:World}{t:Nat->Question->Nat}{b:Nat}{cs:Array Value}{T:TypeId}(h:w.heap[b]?=some (.cells cs T (0,0)))(hO:X.O b)(hb:b<X.n0):(X.mask w t).heap[b]?=some (.cells cs T (0,0)):=by
 rw[zE,if_pos hb,h];unfold Cx.maskO;dsimp only;rw[if_pos hO,if_pos ⟨trivial,λc e fr e2=>by grind⟩]
def Z6D{B b1 b2:Nat}{a:Act}{T1 T2:TypeId}{K:Nat->Prop}{h:Hp}{x:Nat->Value}{wl:World}
  (hsz:a.tmps.size=82) (hd:a.defers=[]) (t1:a.tmps[1]?=some (.pointer (some ⟨b1,0,none⟩))) (t2:a.tmps[2]?=some (.pointer (some ⟨b2,0,none⟩))) (t3:a.tmps[3]?=some (.int .i64 0))
  (hb1:wl.heap[b1]?=some (.cells #[.int .u64 h.base,.int .i64 h.cap,.int .i64 h.to,.bool h.cycle,.int .i64 h.scan,x 0,x 1,x 2,x 3,x 4] T1 (0,0))) (hb2:wl.heap[b2]?=some (.cells #[.slice none 0 0,.slice none 0 0] T2 (0,0)))
  (hB1:B<=b1) (hB2:B<=b2) (h12:b1≠b2) (k1:¬K b1) (k2:¬K b2) (hK:∀b,K b->b<wl.heap.size) (hr:∀j,j<5->Rd wl K (.sl ((lsH h j).map vu)) (x j)):
  RelS K [4,23] a.tmps cV B K wl 82 [.no,.m [vu h.base,vi h.cap,vi h.to,.bool h.cycle,vi h.scan,.sl (h.low.map vu),.sl (h.high.map vu),.sl (h.old.map vu),.sl (h.far.map vu),.sl (h.roots.map vu)],.m [.sl [],.sl []],.v (vi 0)] a wl r5S:=by
 have l1:=(Zh0.1 hb1).1;have l2:=(Zh0.1 hb2).1;have i1:cV.ix 1=1:=by decide+kernel
 have i2:cV.ix 2=2:=by decide+kernel
 have i3:cV.ix 3=3:=by decide+kernel
 refine⟨⟨{F:=K,bl:=λt i=>if t=1/\i=0 then some b1 else if t=2/\i=0 then some b2 else none,K:=K},⟨⟨by omega,hK,λb hb=>.inl hb,λb hb=>hb,λt i b hb=> ?_,λt i u j b hb hb'=> ?_,hK,λt i b hb=> ?_,λb hb=>.inl hb⟩,λt _ hk=> ?_,λt hh=> ?_⟩,rfl⟩,λp hp=> ?_,.refl _ _,hsz,hd⟩
 ·grind
 ·grind
 ·grind
 ·rw[Zk]at hk⊢;by_cases e1:t=1
  ·subst e1;refine⟨_,t1,b1,_,T1,rfl,rfl,hb1,rfl,λi y hi=> ?_⟩;have hi10:i<10:=(ZgX.1 hi).1
   match i,hi10 with
   |0,_=>cases hi;exact⟨_,by rfl,rfl,.int _ _⟩
   |1,_=>cases hi;exact⟨_,by rfl,rfl,.int _ _⟩
   |2,_=>cases hi;exact⟨_,by rfl,rfl,.int _ _⟩
   |3,_=>cases hi;exact⟨_,by rfl,rfl,.bool _⟩
   |4,_=>cases hi;exact⟨_,by rfl,rfl,.int _ _⟩
   |5,_=>cases hi;exact⟨_,by rfl,rfl,hr 0 (by omega)⟩
   |6,_=>cases hi;exact⟨_,by rfl,rfl,hr 1 (by omega)⟩
   |7,_=>cases hi;exact⟨_,by rfl,rfl,hr 2 (by omega)⟩
   |8,_=>cases hi;exact⟨_,by rfl,rfl,hr 3 (by omega)⟩
   |9,_=>cases hi;exact⟨_,by rfl,rfl,hr 4 (by omega)⟩
   |i+10,h=>omega
  ·by_cases e2:t=2
   ·subst e2;refine⟨_,t2,b2,_,T2,rfl,rfl,hb2,rfl,λi y hi=> ?_⟩;have hi2:i<2:=(ZgX.1 hi).1
    match i,hi2 with
    |0,_=>cases hi;exact⟨_,by rfl,rfl,.nil _ _ (Zia _)⟩
    |1,_=>cases hi;exact⟨_,by rfl,rfl,.nil _ _ (Zia _)⟩
    |i+2,h=>omega
   ·by_cases e3:t=3
    ·subst e3;exact⟨_,t3,_,by rfl,.int _ _⟩
    simp_all[r5S,SS.at,ZiY,TK.isNo]
 ·refine absurd ?_ hh;rw[Zk];split<;>exact Ya _
 grind [r5S,SS.at]
def EndM(cs:List Frame)(r:V)(D:Nat->Prop)(g:Goroutine)(w:World):Prop:=
 ∃fr,g=G fr cs/\fr.fn=15/\fr.mode=.returning/\fr.defers=[]/\fr.kind=.normal/\∀d,∃v,(results Try.f15 fr.tmps).run Try.prog (w.at d)=.ok v (w.at d)/\Rd (w.at d) (λb=>D b/\b<w.heap.size) r v
def Z5U{c n0 B b1 b2:Nat}{a:Act}{T1 T2:TypeId}{K:Nat->Prop}{h:Hp}{x:Nat->Value}{w:World}{cs:List Frame}{fs:List (Fo×Value)}{fin:Vw}(hh:h.ok)
  (hsz:a.tmps.size=82) (hd:a.defers=[]) (t1:a.tmps[1]?=some (.pointer (some ⟨b1,0,none⟩))) (t2:a.tmps[2]?=some (.pointer (some ⟨b2,0,none⟩))) (t3:a.tmps[3]?=some (.int .i64 0)) (t4:a.tmps[4]?=some (.chan (some c)))
  (hb1:w.heap[b1]?=some (.cells #[.int .u64 h.base,.int .i64 h.cap,.int .i64 h.to,.bool h.cycle,.int .i64 h.scan,x 0,x 1,x 2,x 3,x 4] T1 (0,0))) (hb2:w.heap[b2]?=some (.cells #[.slice none 0 0,.slice none 0 0] T2 (0,0)))
  (hBw:B<=w.heap.size) (hB1:B<=b1) (hB2:B<=b2) (h12:b1≠b2) (k1:¬K b1) (k2:¬K b2) (hn0:w.heap.size<=n0) (hc:c<n0)
  (hK:∀b,K b->∃cs e fr,w.heap[b]?=some (.cells cs e fr)) (hKf:∀(b:Nat) (cs:Array Value) (e:TypeId) (fr:Nat×Nat),w.heap[b]?=some (Obj.cells cs e fr)->FixO n0 (Obj.cells cs e fr)) (hfT:∀v∈a.tmps,FixV n0 v) (hx:∀j,j<5->FixV n0 (x j))
  (hr:∀j,j<5->Rd w K (.sl ((lsH h j).map vu)) (x j)) (hfs:∀y∈fs,Rd w K (foV y.1) y.2/\NoM (foV y.1)) (hev:fs.map (·.2)=fvs h x 4 0) (hn:fs.length<=4000000) (hfin:(fs.map (·.1)).foldl Vw.put ⟨[],[],[]⟩=fin) (hs:fin.sm h.roots):
  Play Try.prog true c K (λ_=>EndM cs (XA (fin.gr h.roots)) (λb=>K b\/B<=b)) ((fvs h x 4 0).map .recv++[.closed zF]) (λb=>b=b1\/b=b2) (G ((base 15).at a [.inRegion ops4 [],.code (cAt ofC [1,1,1,1])]) cs) w:=by
 have hKl:∀b,K b->b<w.heap.size:=λb hb=>by grind
 have l1:=(Zh0.1 hb1).1;have l2:=(Zh0.1 hb2).1
 let X:Cx:=cxS Try.prog Sol.prog n0 K (λb=>b=b1\/b=b2)
 have hXP:∀ρ,(X.at ρ).P=Try.prog:=λρ=>Sol.sub.same.symm;have hmz:∀t,(X.mask w t).heap.size=n0:=λt=>by simp[Cx.mask,X,cxS]
 have hes:(fvs h x 4 0).map Ev.recv=fs.map λy=>.recv y.2:=by rw[<-hev,Zj2];rfl
 have hOK:∀b,(b=b1\/b=b2)->¬K b:=λb hb=>by grind
 have hw:=Zbd X (Sol.sub.ok n0 K (λb=>b=b1\/b=b2)) (c:=c) (es:=(fvs h x 4 0).map .recv++[.closed zF]) (fr:=(base 15).at a [.inRegion ops4 [],.code (cAt ofC [1,1,1,1])]) (cs:=[]) (ds:=cs) (main:=true) (wc:=w)
  (λe he=>by
   rcases Zhn.1 he with he|he
   ·obtain⟨v,hv,rfl⟩:=Zh8.1 he;obtain⟨q,o,hq,rfl⟩:=Z0o hv;exact⟨Z9f (hx q (by omega)) o,hc⟩
   ·have:e=.closed zF:=by simpa using he
    subst this;exact⟨λρ _=>by simp_all[zF,Yg,ren],hc⟩)
  (λρ=>by
   refine⟨⟨λi hi=> ?_,λd hd'=> ?_,.inl rfl,.inr (.inr ⟨_,_,Zdh,Try.func15,rfl⟩)⟩,λf hf=>by simp at hf,rfl⟩
   ·have:i=.inRegion ops4 []\/i=.code (cAt ofC [1,1,1,1]):=by simpa[Frame.at]using hi
    rcases this with rfl|rfl
    ·exact ZaH
    ·exact ZaV
   ·rw[show((base 15).at a [.inRegion ops4 [],.code (cAt ofC [1,1,1,1])]).defers=a.defers from rfl,hd]at hd';simp at hd')
  (λf hf=>by
   have:f=(base 15).at a [.inRegion ops4 [],.code (cAt ofC [1,1,1,1])]:=by simpa using hf
   subst this;intro ρ hρ;simp only[renF,Frame.at,VY hfT ρ hρ,hd];rfl)
  (λb o ho hO=>by
   rcases hO with hO|hO
   ·rcases hO with rfl|rfl
    ·rw[hb1]at ho;cases ho;exact hKf _ _ _ _ hb1
    ·rw[hb2]at ho;cases ho;exact hKf _ _ _ _ hb2
   ·obtain⟨cs,e,fr,he⟩:=hK b hO;rw[ho]at he;cases he;exact hKf _ _ _ _ ho)
  (Post:=λwl=>Zbu (base 15) (λw' b=>K b\/(B<=b/\b<w'.heap.size)) (XA (fin.gr h.roots)))
  (λt=>by
   rw[hes]
   have hrm:∀ {y:V} {v:Value},Rd w K y v->NoM y->Rd (X.mask w t) K y v:=λ{y v} h1 h2=>by
    clear hfs
    induction h1 with
    |int k n=>exact .int k n
    |bool b=>exact .bool b
    |str s=>exact .str s
    |nil a cap h=>exact .nil a cap h
    |sl l b o cap k vs q1 q2 hb hf hc' _ ih=>
     cases h2 with
     |sl _ hm=>exact .sl l b o cap k vs q1 q2 hb hf (λi hi=>Sc (λho=>hOK b ho hb) (λc e fr _=>hb) hn0 (hc' i hi)) λi c hi=>ih i c hi (hm c (TW hi))
    |agg cs vs q1 q2 _ ih=>
     cases h2 with
     |agg _ hm=>exact .agg cs vs q1 q2 λi c hi=>ih i c hi (hm c (Zh2 hi))
    |tup l vs q1 _ ih=>
     cases h2 with
     |tup _ hm=>exact .tup l vs q1 λi c hi=>ih i c hi (hm c (Zh2 hi))
    |ptr cs b o vs hb q1 hc' _ ih=>
     cases h2 with
     |ptr _ hm=>exact .ptr cs b o vs hb q1 (λi hi=>Sc (λho=>hOK b ho hb) (λc e fr _=>hb) hn0 (hc' i hi)) λi c hi=>ih i c hi (hm c (Zh2 hi))
    |fn f=>exact .fn f
    |clo f cs vs q1 _ ih=>
     cases h2 with
     |clo _ _ hm=>exact .clo f cs vs q1 λi c hi=>ih i c hi (hm c (Zh2 hi))
    |nul0=>exact .nul0
    |nul1=>exact .nul1
    |nomp=>cases h2
    |mp=>cases h2
   refine LS.regEnd (ZaF (G:=K) (B:=B) (Z6D hsz hd t1 t2 t3 (Z2j hb1 (.inl rfl) (by show b1<n0;omega)) (Z2j hb2 (.inr rfl) (by show b2<n0;omega)) hB1 hB2 h12 k1 k2 (λb hb=>by grind) λj hj=>hrm (hr j hj) (Z8e _)) t4 rfl (λy hy=>hrm (hfs y hy).1 (hfs y hy).2) hn hfin hs))
 have hw:Play Try.prog true c K _ ((fvs h x 4 0).map .recv++[.closed zF]) (λb=>b=b1\/b=b2) (G ((base 15).at a [.inRegion ops4 [],.code (cAt ofC [1,1,1,1])]) ([]++cs)) w:=(hXP id)▸hw;refine hw.mono λO g w' ⟨ρ,t,fr',cs',wl',fc,cc,hg,hid,⟨hcs,a',todo,hfr,hd',v,hv,hvr⟩,hwv⟩=> ?_;subst hg hcs hfr;have htop:fc=renF ρ {(base 15).at a' todo with mode:=.returning}:=hwv.top;have hund:cc=cs:=hwv.under;subst hund;refine⟨fc,rfl,by rw[htop];rfl,by rw[htop];rfl,by rw[htop];show a'.defers.map _=_;grind,by rw[htop];rfl,λd=> ?_⟩;have hwr:(X.at ρ).WR wl' (w'.at d):=ZbA hwv.wr d;have hlook:=RL Try.f15 (a'.tmps.map (ren ρ));have hwd:wdR ((results Try.f15 (a'.tmps.map (ren ρ))).run Try.prog (w'.at d))=w'.at d:=hlook.world _
 have htold:=(Tj (X:=X.at ρ) (V:=[]) Try.f15 a'.tmps).run wl' (w'.at d) #[] hwr (λr hr=>by simp at hr)
  (λj hj=>by
   rw[hXP ρ]at hj;have e:(wdR ((results Try.f15 (a'.tmps.map (ren (X.at ρ).ρ))).run Try.prog (w'.at d))).drawn=(w'.at d).drawn:=Zi5 World.drawn hwd;omega)
  (λj hj=>by
   rw[hXP ρ]at hj;have e:(wdR ((results Try.f15 (a'.tmps.map (ren (X.at ρ).ρ))).run Try.prog (w'.at d))).heap.size=(w'.at d).heap.size:=Zi5 (λw=>w.heap.size) hwd;omega)
 have h5':(results Try.f15 a'.tmps).run (X.at ρ).Q wl'=.ok v wl':=hv;rw[h5',hXP ρ]at htold;obtain⟨b,wc',es',he,hb',haf⟩:=htold
 have hrun:(results Try.f15 (a'.tmps.map (ren ρ))).run Try.prog (w'.at d)=.ok b wc':=by
  have:=Zi5 Prod.fst he;rw[ZiD]at this;exact this
 have hwc:wc'=w'.at d:=by
  have:=hwd;rw[hrun]at this;exact this
 subst hwc;have hb'':b=ren ρ v:=hb';refine⟨b,by rw[htop];exact hrun,?_⟩;rw[hb''];refine(ZfL (Z9z hwr hvr (qW _).m) (qW _)).mono λb' hb1'=> ?_;obtain⟨⟨z,hz,rfl⟩,hlt⟩:=hb1';refine⟨?_,hlt⟩;by_cases hzn:z<n0
 ·have e:(X.at ρ).ρ z=z:=hid z hzn
  grind
 ·rcases hz with hz|hz
  ·grind
  ·right;have:=hwv.new z (Nat.le_of_not_lt hzn) hz.2;omega
def foP(h:Hp)(p:Nat)(o:Ob):Fo:=⟨o,(ZJ (layH h) ((p:Int)+1) o.at_).1,((lsH h p).drop (o.at_+1).toNat).take o.size.toNat⟩
def fos(h:Hp):Nat->Nat->List Fo
 |0,_=>[]
 |n+1,p=>(obP h p).map (foP h p)++fos h n (p+1)
def frs(h:Hp)(x:Nat->Value):Nat->Nat->List (Fo×Value)
 |0,_=>[]
 |n+1,p=>(obP h p).map (λo=>(foP h p o,fvV h x p o))++frs h x n (p+1)
def Z0n(h:Hp)(x:Nat->Value):∀(n p:Nat),(frs h x n p).map (·.1)=fos h n p
 |0,p=>rfl
 |n+1,p=>by simp_all[frs,fos,Zif,Zj2,Z0n]
def Z5e(h:Hp)(x:Nat->Value):∀(n p:Nat),(frs h x n p).map (·.2)=fvs h x n p
 |0,p=>rfl
 |n+1,p=>by simp_all[frs,fvs,Zif,Zj2,Z5e]
def Z5d{h:Hp}{x:Nat->Value}{y:Fo×Value}:∀ {n p:Nat},y∈frs h x n p->∃q o,q<p+n/\o∈obP h q/\y=(foP h q o,fvV h x q o)
 |0,p,hv=>by simp[frs]at hv
 |n+1,p,hv=>by
  simp only[frs,Zhn,Zh8]at hv;rcases hv with ⟨o,ho,rfl⟩|hv
  ·exact⟨p,o,by omega,ho,rfl⟩
  ·obtain⟨q,o,h1,h2⟩:=Z5d hv;exact⟨q,o,by omega,h2⟩
def YN(h:Hp):Vw:=(fos h 4 0).foldl Vw.put ⟨[],[],[]⟩
def ofR(h:Hp):V:=if YA h=true then XA ((YN h).gr h.roots)else .tup [grV noGr,vi 1]
structure OfOk (h:Hp):Prop where
 ob:∀p,p<4->(obP h p).length<=1000000/\∀o∈obP h p,0<=o.at_/\0<=o.size/\o.at_+1+o.size<=(lsH h p).length
 n:(fos h 4 0).length<=4000000
 sm:(YN h).sm h.roots
def ZdK{w:World}{K:Nat->Prop}{l:List Int}{v:Value}(h:Rd w K (.sl (l.map vu)) v){lo n:Nat}(h0:0<l.length)(hn:lo+n<=l.length):Rd w K (.sl (((l.drop lo).take n).map vu)) (sliV v lo n):=by
 generalize hL:l.map vu=L at h;have hlen:L.length=l.length:=by rw[<-hL,ZhG]
 cases h with
 |nil a cap hc=>simp_all
 |sl _ b o cap k vs h1 h2 h3 h4 h5 h6=>
  have hk:k=1:=by
   have hm:vu (l[0]'h0)∈L:=by rw[<-hL];exact List.mem_map_of_mem (Zh9 h0)
   have:=(h4 _ hm).1;simpa[vu,V.cells]using this.symm
  subst hk;unfold sliV;dsimp only;have hl2:(((l.drop lo).take n).map vu).length=n:=by simp;omega
  by_cases hz:n=0
  ·subst hz;simp only[ZkX,Zj3];exact .nil _ _ (by omega)
  ·rw[if_neg (by omega)]
   have:=Rd.sl (w:=w) (G:=K) (((l.drop lo).take n).map vu) b (o+lo) (cap-lo) 1 (λi=>vs (lo+i)) (by omega) (by omega) h3 (λx hx=>by grind)
    (λi hi=>by grind)
    (λi c hi=>by
     rw[YJ λx hx=>by obtain⟨y,_,rfl⟩:=Zh8.1 hx;rfl,Zhd,Zhy]at hi;split at hi
     ·rw[ZhF]at hi;exact h6 (lo+i) c (by rw[<-hL,YJ λx hx=>by obtain⟨y,_,rfl⟩:=Zh8.1 hx;rfl,Zhd];exact hi)
     ·cases hi)
   simp_all
def Zd8(f:Fo):NoM (foV f):=.agg _ λc hc=>by
 simp only[Zhe,Zij,ZjL]at hc;rcases hc with rfl|rfl|rfl|rfl|rfl|rfl|rfl
 all_goals first|exact .int _ _|exact .bool _|exact Z8e _
def ZcO{w:World}{K:Nat->Prop}{h:Hp}{x:Nat->Value}(hk:OfOk h)(hr:∀j,j<5->Rd w K (.sl ((lsH h j).map vu)) (x j)):∀y∈frs h x 4 0,Rd w K (foV y.1) y.2/\NoM (foV y.1):=by
 intro y hy;obtain⟨q,o,hq,ho,rfl⟩:=Z5d hy;refine⟨?_,Zd8 _⟩;obtain⟨h1,h2,h3⟩:=(hk.ob q (by omega)).2 o ho;refine .agg _ _ rfl (by simp) λi c hi=> ?_
 match i,hi with
 |0,hi=>cases hi;exact .int _ _
 |1,hi=>cases hi;exact .int _ _
 |2,hi=>cases hi;exact .int _ _
 |3,hi=>cases hi;exact .bool _
 |4,hi=>cases hi;exact .int _ _
 |5,hi=>cases hi;exact .int _ _
 |6,hi=>cases hi;exact ZdK (hr q (by omega)) (by omega) (by omega)
noncomputable def cB:Ctx:= {P:=bes Try.prog,ix:=(vf (bes Try.prog)).ix,own:=λ_=>false,fresh,sig:=sigV,tr:=[3],n:=82}
def Z1M{P:Program}:∀ {c:Code},Kr P c=true->TG (Lg.fit (bes P)) c:=by
 intro c
 induction c with
 |region id ops d=>exactλh o ho=>(ZiR.1 h) o ho
 |seq x y hx hy=>intro h;simp only[Kr,ZgY]at h;exact⟨hx h.1,hy h.2⟩
 |cond c x y hx hy=>intro h;simp only[Kr,ZgY]at h;exact⟨hx h.1,hy h.2⟩
 |block id x hx=>exact hx
 |loop x hx=>exact hx
 |scope x hx=>exact hx
 |_=>intro h;first|trivial|cases h
def TX:(bes Try.prog).follows .mixedOrders=true:=by kernel_rfl
def j0{code:Code}{S:SS}{st:Stm}{fl:Flow}{B:Nat}{G Kf:Nat->Prop}{s:St}{a:Act}{w w0:World}{T0:Array Value}{N:St->Prop}{X:Nat->St->Prop}{Rt:St->Prop}(hf:Kr Try.prog code=true)(hc:comp (vf (bes Try.prog)) code S=some (st,fl))(hr:RelS Kf [4,23] T0 cB B G w0 82 s a w S)(hw:wpS (bes Try.prog) st s N X Rt):
  wpB Try.prog code (Post Kf [4,23] T0 cB B G w0 82 fl N X Rt) a w:=
 letI:Lg (vf (bes Try.prog)).P:=besI Try.prog
 SL (fc:=vf (bes Try.prog)) TX (λp hp q hq he=>Z18 (ZiF _ hp) (ZiF _ hq) he) rfl rfl rfl (Zh1 _) code (Z1M hf) hc hr hw
def Zdf:Try.f15.body=some ofC:=by kernel_rfl
def ZaE:ofC=.seq (cAt ofC [0]) (.seq (cAt ofC [1,0]) (.seq (cAt ofC [1,1,0]) (.seq (cAt ofC [1,1,1,0]) (cAt ofC [1,1,1,1])))):=by kernel_rfl
noncomputable def ops3:Array Oper:=Z6k (cAt ofC [1,1,0])
def ZfG:cAt ofC [1,1,0]=.region 3 ops3 false:=by kernel_rfl
def ZfH:cAt ofC [1,1,1,0]=.region 4 ops4 false:=by kernel_rfl
def Zdn:∃o,ops3[0]?=some o/\o.guard=none/\o.dst=some 18/\o.op=.makeChan 81 (.const (.int .i64 0)):=⟨_,rfl,rfl,rfl,rfl⟩
def Zdo:∃o,ops3[1]?=some o/\o.guard=none/\o.dst=some 4/\o.op=.assign (.tmp 18):=⟨_,rfl,rfl,rfl,rfl⟩
def Zdp:∃o,ops4[0]?=some o/\o.guard=none/\o.dst=some 19/\o.op=.load 37 (.tmp 1):=⟨_,rfl,rfl,rfl,rfl⟩
def Zdq:∃o,ops4[1]?=some o/\o.guard=none/\o.dst=some 20/\o.op=.move (.tmp 4):=⟨_,rfl,rfl,rfl,rfl⟩
def Zdr:∃o ats,ops4[2]?=some o/\o.guard=none/\o.dst=none/\o.op=.go ⟨.value (.func 42), #[.tmp 19,.tmp 20],ats⟩:=⟨_,_,rfl,rfl,rfl,rfl⟩
def j8:ops3.size=2/\ops4.size=3:=⟨rfl,rfl⟩
def Z7D:∃d inf,Try.prog.underlying 81=some (.chan d 87)/\Try.prog.info? 87=some inf:=⟨_,_,rfl,rfl⟩
def Z7z{B:Nat}{w w':World}(h:Below B w w')(d:Nat):Below B w (w'.at d):=⟨h.os,h.tape,h.output,h.size,h.block⟩
def Za8{b:Frame}{k:List Item}{cs:List Frame}{a:Act}{hv:Value}{c:Nat}(hk:b.kind≠.early)(h19:a.tmps[19]?=some hv)(h20:a.tmps[20]?=some (.chan (some c)))(w:World):
  stepG Try.prog true (G (b.at a (.inRegion ops4 [2]::k)) cs) w=.spawn (G (b.at a (.inRegion ops4 []::k)) cs) (born Try.prog {target:=.fn (.func 42) #[],args:=#[hv,.chan (some c)]}) w #[]:=by
 obtain⟨o,ats,o1,o2,o3,o4⟩:=Zdr;have e1:=Act.eval_tmp a 19 _ h19;have e2:=Act.eval_tmp a 20 _ h20
 have e0:execOp a.eval o=(pure (.spawn {target:=.fn (.func 42) #[],args:=#[hv,.chan (some c)]}):Sem Next):=by
  unfold execOp;simp only[o4];simp[resolve,Deferred.ofValue,Act.eval,h19,h20]
 have:=stepG_spawn (P:=Try.prog) (main:=true) (b:=b) (a:=a) (k:=k) (cs:=cs) (w:=w) (i:=2) (rest:=[]) o1 (by simp[Region.wanted,o2]) hk (by rw[e0];rfl) rfl;rw[o3]at this;rw[this];unfold listed;rw[e0];rfl
def Z8i{h:Hp}{B:Nat}{G:Nat->Prop}{s:St}{a:Act}{w w0:World}{T0:Array Value}(hr:RelS G [4,23] T0 cB B G w0 82 s a w rXN)(q1:get s 1=.m [vu h.base,vi h.cap,vi h.to,.bool h.cycle,vi h.scan,.sl (h.low.map vu),.sl (h.high.map vu),.sl (h.old.map vu),.sl (h.far.map vu),.sl (h.roots.map vu)])(q3:get s 3=.v (vi 0)):
  ∃(F:Nat->Prop) (b1 b2:Nat) (T1 T2:TypeId) (x:Nat->Value),(∀b,F b->G b\/B<=b)/\¬F b1/\¬F b2/\B<=b1/\B<=b2/\b1≠b2/\B<=w.heap.size/\a.tmps[1]?=some (.pointer (some ⟨b1,0,none⟩))/\a.tmps[2]?=some (.pointer (some ⟨b2,0,none⟩))/\a.tmps[3]?=some (.int .i64 0)/\
   w.heap[b1]?=some (.cells #[.int .u64 h.base,.int .i64 h.cap,.int .i64 h.to,.bool h.cycle,.int .i64 h.scan,x 0,x 1,x 2,x 3,x 4] T1 (0,0))/\w.heap[b2]?=some (.cells #[.slice none 0 0,.slice none 0 0] T2 (0,0))/\
   (∀j,j<5->Rd w F (.sl ((lsH h j).map vu)) (x j)):=by
 obtain⟨⟨h1,k1,k2⟩,k3,k4,k5,k6⟩:=hr;have i1:cB.ix 1=1:=by decide+kernel
 have i3:cB.ix 3=3:=by decide+kernel
 obtain⟨u1,t1,b1,vs1,T1,f1,rfl,f3,f4⟩:=k1.at_ 1 (by rw[Zk];exact Ya _) (by rfl);obtain⟨u2,t2,b2,vs2,T2,g1,rfl,g3,g4⟩:=k1.at_ 2 (by rw[Zk];exact Ya _) (by rfl);obtain⟨u3,t3,hk3⟩:=k1.at_ 3 (by rw[Zk];exact Ya _) (by rfl);obtain⟨y3,hy3,hr3⟩:∃y,eval s (.s (cB.ix 3))=some y/\Rd w (h1.ext []) y u3:=hk3;rw[i3]at hy3;simp only[eval,q3,ZgT]at hy3;subst hy3;have e3:=Vv hr3;subst e3;have hs1:vs1.size=10:=f4.1;have hs2:vs2.size=2:=g4.1
 have hc:∀(i:Nat) (y:V),[vu h.base,vi h.cap,vi h.to,.bool h.cycle,vi h.scan,.sl (h.low.map vu),.sl (h.high.map vu),.sl (h.old.map vu),.sl (h.far.map vu),.sl (h.roots.map vu)][i]?=some y->Rd w h1.F y (vs1.getD i undef):=λi y hi=>by
  have hi10:i<10:=(ZgX.1 hi).1
  have:=f4.2 i (.fz,.m (cB.ix 1) i) (by
   match i,hi10 with
   |0,_=>rfl
   |1,_=>rfl
   |2,_=>rfl
   |3,_=>rfl
   |4,_=>rfl
   |5,_=>rfl
   |6,_=>rfl
   |7,_=>rfl
   |8,_=>rfl
   |9,_=>rfl
   |i+10,h=>omega)
  obtain⟨z,z1,z2,z3⟩:=this;rw[i1]at z1;simp only[eval,q1,hi,Zh4]at z1;obtain⟨rfl,_⟩:=Xb z1;exact z3
 have hn:∀i,i<2->vs2.getD i undef=.slice none 0 0:=λi hi=>by
  have:=g4.2 i (.nil,.m (cB.ix 2) i) (by
   grind)
  exact this.1
 have ev1:vs1=#[.int .u64 h.base,.int .i64 h.cap,.int .i64 h.to,.bool h.cycle,.int .i64 h.scan,vs1.getD 5 undef,vs1.getD 6 undef,vs1.getD 7 undef,vs1.getD 8 undef,vs1.getD 9 undef]:=by
  refine ZkF (by omega) λi q w'=> ?_;have hi:i<10:=by simpa using w'
  have e:vs1[i]=vs1.getD i undef:=by simp[Array.getD,q]
  rw[e]
  match i,hi with
  |0,_=>exact Vv (hc 0 _ rfl)
  |1,_=>exact Vv (hc 1 _ rfl)
  |2,_=>exact Vv (hc 2 _ rfl)
  |3,_=>exact Z2x (hc 3 _ rfl)
  |4,_=>exact Vv (hc 4 _ rfl)
  |5,_=>rfl
  |6,_=>rfl
  |7,_=>rfl
  |8,_=>rfl
  |9,_=>rfl
  |i+10,h=>omega
 have ev2:vs2=#[.slice none 0 0,.slice none 0 0]:=by
  refine ZkF (by omega) λi q w'=> ?_;have hi:i<2:=by simpa using w'
  have e:vs2[i]=vs2.getD i undef:=by simp[Array.getD,q]
  rw[e,hn i hi]
  match i,hi with
  |0,_=>rfl
  |1,_=>rfl
  |i+2,h=>omega
 obtain⟨m1,m2,m3⟩:=k1.ok.b_lt 1 0 b1 f1;obtain⟨n1,n2,n3⟩:=k1.ok.b_lt 2 0 b2 g1;refine⟨h1.F,b1,b2,T1,T2,λj=>vs1.getD (5+j) undef,k1.ok.f_or,m3,n3,m1,n1,λe=> ?_,k1.ok.base,t1,t2,t3,by grind,by grind,λj hj=> ?_⟩
 ·grind
 ·match j,hj with
  |0,_=>exact hc 5 _ rfl
  |1,_=>exact hc 6 _ rfl
  |2,_=>exact hc 7 _ rfl
  |3,_=>exact hc 8 _ rfl
  |4,_=>exact hc 9 _ rfl
  |j+5,h=>omega
def Zbx{h:Hp}(hh:h.ok)(hk:YA h=true->OfOk h):VC (bes Try.prog) 15 false [hpV h] (ofR h):=by
 refine⟨by kernel_rfl,λw G vs hG hsz hrd cs Stop hK=> ?_⟩;have hright:VC (bes Try.prog) 25 false [hpV h] (.bool (YA h)):=Z5K Sol.sub (Zbw hh) (λy hy=>by rw[ZhU.1 hy];exact Z68 h) (.bool _);have hs1:vs.size=1:=hsz;have hv0:Rd w G (hpV h) (vs.getD 0 undef):=hrd 0 _ rfl
 have hent:Frame.enter Try.prog 15 vs .normal=(base 15).at {tmps:=vs++Array.replicate (82-vs.size) undef,defers:=[]} [.code ofC]:=by
  rw[enter_at vs Try.func15 Zdf,Try.ntmps15]
 show Walk Try.prog Stop (Frame.enter Try.prog 15 vs .normal) cs w;rw[hent,ZaE];clear hent;have i0:cB.ix 0=0:=by decide+kernel
 generalize ha0:({tmps:=vs++Array.replicate (82-vs.size) undef,defers:=[]}:Act)=a0
 have t0:a0.tmps[0]?=some (vs.getD 0 undef):=by
  rw[<-ha0];simp only;rw[ZiO (by omega)];simp[ZgZ,hs1]
 have hr0:RelS G [4,23] a0.tmps cB w.heap.size G w 82 [.v (hpV h)] a0 w r0S:=by
  refine⟨⟨{F:=G,bl:=λ_ _=>none,K:=G},⟨⟨Zh1 _,hG,λb hb=>.inl hb,λb hb=>hb,λt i b hb=>(by cases hb),λt i u j b hb=>(by cases hb),hG,λt i b hb=>(by cases hb),λb hb=>.inl hb⟩,λt _ hk=> ?_,λt hh=> ?_⟩,rfl⟩,λp hp=> ?_,.refl _ _,by rw[<-ha0];simp[hs1],by rw[<-ha0]⟩
  ·rw[Zk]at hk⊢;by_cases e:t=0
   ·subst e;exact⟨_,t0,hpV h,by rw[i0];rfl,hv0.mono λb hb=>.inl hb⟩
   ·simp[r0S,SS.at,ZiY e,TK.isNo]at hk
  ·refine absurd ?_ hh;rw[Zk];split<;>exact Ya _
  ·simp only[r0S,SS.at]at hp;split at hp<;>cases hp
 refine .two (j0 (by kernel_rfl) r0c hr0 (N:=λs'=>get s' 1=.m [vu h.base,vi h.cap,vi h.to,.bool h.cycle,vi h.scan,.sl (h.low.map vu),.sl (h.high.map vu),.sl (h.old.map vu),.sl (h.far.map vu),.sl (h.roots.map vu)]/\get s' 2=.m [.sl [],.sl []]/\get s' 3=.v (vi 0)) (X:=λ_ _=>False) (Rt:=λ_=>False) (by simp[r0]) (base 15) _ cs Stop (by simp[base]) λe a1 w1 hp=> ?_);cases e with
 |exit id=>obtain⟨_,_,_,h,_⟩:=hp;exact h.elim
 |ret=>obtain⟨_,_,_,h,_⟩:=hp;exact h.elim
 |normal=>
  obtain⟨s1,S1,hS1,⟨q1,q2,q3⟩,hr1⟩:=hp;cases hS1;have hb1:Below w.heap.size w w1:=hr1.2.2.1.below;refine .two (j0 (by kernel_rfl) rXc hr1.base (N:=λs'=>YA h=true/\get s' 1=get s1 1/\get s' 3=get s1 3) (X:=λ_ _=>False) (Rt:=λs'=>YA h=false/\resV s' [(2,.ag 2),(3,.v)]=some (.tup [grV noGr,vi 1])) ?_ (base 15) _ cs Stop (by simp[base]) λe a2 w2 hp=> ?_)
  ·simp[rX,q1];refine Z1 hright (by simp) ?_;cases hrr:YA h
   ·simp[Zo,resV,So,JW,noGr,grV]
   ·simp[Zo,q1]
  ·cases e with
   |exit id=>obtain⟨_,_,_,h,_⟩:=hp;exact h.elim
   |ret=>
    obtain⟨s2,S2,hS2,⟨e1,e2⟩,hr2⟩:=hp;have hS2:S2=rXR:=by simpa using hS2
    subst hS2;have hb2:Below w.heap.size w w2:=hb1.trans hr2.2.2.1.below;intro todo;refine hK _ w2 rfl ⟨rfl,hr2.2.2.2.2,rfl,_,Try.func15,λd=> ?_⟩;obtain⟨⟨h2,k1,k2⟩,k3,k4,k5,k6⟩:=hr2.sim d
    obtain⟨v,hv,hvr⟩:=V8 (c:=cB) (f:=Try.f15) (D:=λb=>(false=false/\G b)\/(w.heap.size<=b/\b< (w2.at d).heap.size)) k1 k3 (λb hb=>by
     rcases k1.ok.f_or b hb with h1|h1
     ·exact .inl ⟨rfl,h1⟩
     ·exact .inr ⟨h1,k1.ok.f_lt b hb⟩) (λr hr=>⟨Zh5.1 (show(Try.f15.results.toList.all (j5 (bes Try.prog) rXR))=true by kernel_rfl) r hr,λi b hb=>.inr ⟨(k1.ok.b_lt _ _ b hb).1,(k1.ok.b_lt _ _ b hb).2.1⟩⟩) (x:=.tup [grV noGr,vi 1]) (by rw[<-e2];exact Zi5 (resV s2) (by kernel_rfl))
    refine⟨v,hv,v,rfl,Z7z hb2 d,?_⟩;unfold ofR;rw[if_neg (by rw[e1];simp)];exact hvr
   |normal=>
    obtain⟨s2,S2,hS2,⟨e1,e2,e3⟩,hr2⟩:=hp;cases hS2;have hb2:Below w.heap.size w w2:=hb1.trans hr2.2.2.1.below;have hok:=hk e1;obtain⟨F,b1,b2,T1,T2,x,hF,nF1,nF2,hB1,hB2,h12,hBw,t1,t2,t3,hw1,hw2,hrx⟩:=Z8i (h:=h) hr2 (e2.trans q1) (e3.trans q3);have hsz2:a2.tmps.size=82:=hr2.2.2.2.1;have hd2:a2.defers=[]:=hr2.2.2.2.2;have l1:=(Zh0.1 hw1).1;have l2:=(Zh0.1 hw2).1;obtain⟨o,o1,o2,o3,o4⟩:=Zdn;obtain⟨o',p1,p2,p3,p4⟩:=Zdo;obtain⟨dir,inf,hty,hinf⟩:=Z7D;refine .two ?_;rw[ZfG];refine .region ?_;rw[j8.1,show List.range 2=[0,1]from rfl];refine Walk.chan (i:=0) o1 (by simp[Region.wanted,o2]) (by simp[base]) o4 hty hinf ?_;rw[o3];generalize hc:w2.heap.size=c;obtain⟨w3,hw3⟩:∃w3,w3=w2.alloc (.chan 0 #[] false 0 0 false):=⟨_,rfl⟩;rw[<-hw3];have ev18:((a2.put (some 18) (.chan (some c))).eval (.tmp 18))=.chan (some c):=Act.eval_tmp _ 18 _ (T8 (by omega));refine Walk.val (i:=1) (v:=.chan (some c)) p1 (by simp[Region.wanted,p2]) (by simp[base]) (by rw[p4];rfl) (λw' _=>by unfold execOp;simp only[p4,ev18];rfl) (.regEnd ?_);rw[p3];have z3:w3.heap.size=c+1:=by rw[hw3,<-hc];simp
    have hch:w3.heap[c]?=some (.chan 0 #[] false 0 0 false):=by rw[hw3,<-hc];exact ZhH ..
    have ho3:∀b,b<c->w3.heap[b]?=w2.heap[b]? :=λb hb=>by rw[hw3];exact Zi2 _ _ _ (by omega)
    have hb3:Below w.heap.size w w3:=by rw[hw3];exact hb2.alloc (by omega) _
    have m1:w3.heap[b1]?=_:=(ho3 b1 (by omega)).trans hw1;have m2:w3.heap[b2]?=_:=(ho3 b2 (by omega)).trans hw2;obtain⟨o0,a1',a2',a3',a4'⟩:=Zdp;obtain⟨o9,c1',c2',c3',c4'⟩:=Zdq;refine .two ?_;rw[ZfH];refine .region ?_;rw[j8.2,show List.range 3=[0,1,2]from rfl];generalize hA3:(a2.put (some 18) (.chan (some c))).put (some 4) (.chan (some c))=a3;have g1:a3.tmps[1]?=some (.pointer (some ⟨b1,0,none⟩)):=by rw[<-hA3,Yl (by omega),Yl (by omega)];exact t1
    have g4:a3.tmps[4]?=some (.chan (some c)):=by rw[<-hA3];exact T8 (by rw[Xy];omega)
    have gs:a3.tmps.size=82:=by rw[<-hA3,Xy,Xy];exact hsz2
    have ev1:a3.eval (.tmp 1)=.pointer (some ⟨b1,0,none⟩):=Act.eval_tmp _ 1 _ g1;refine Walk.val (i:=0) (v:=hpA h x) a1' (by simp[Region.wanted,a2']) (by simp[base]) (by rw[a4'];rfl) (λw' he=> ?_) ?_
    ·have hl:=Ss (P:=Try.prog) (w:=w') (T:=37) (by kernel_rfl) (by kernel_rfl) (b:=b1) (o:=0) [.int .u64 h.base,.int .i64 h.cap,.int .i64 h.to,.bool h.cycle,.int .i64 h.scan,x 0,x 1,x 2,x 3,x 4] (by kernel_rfl) (λi u hi=>by
      rw[ZhK,Zhg w' b1 i _ T1 (0,0) (by rw[he];exact m1)];simpa using hi)
     unfold execOp;simp only[a4',ev1];rw[Zht,hl];rfl
    rw[a3'];have ev4:(a3.put (some 19) (hpA h x)).eval (.tmp 4)=.chan (some c):=Act.eval_tmp _ 4 _ (by rw[Yl (by omega)];exact g4);refine Walk.val (i:=1) (v:=.chan (some c)) c1' (by simp[Region.wanted,c2']) (by simp[base]) (by rw[c4'];rfl) (λw' _=>by unfold execOp;simp only[c4',ev4];rfl) ?_;rw[c3'];generalize hA5:(a3.put (some 19) (hpA h x)).put (some 20) (.chan (some c))=a5;have u1:a5.tmps[1]?=some (.pointer (some ⟨b1,0,none⟩)):=by rw[<-hA5,Yl (by omega),Yl (by omega)];exact g1
    have u4:a5.tmps[4]?=some (.chan (some c)):=by rw[<-hA5,Yl (by omega),Yl (by omega)];exact g4
    have us:a5.tmps.size=82:=by rw[<-hA5,Xy,Xy];exact gs
    have u2:a5.tmps[2]?=some (.pointer (some ⟨b2,0,none⟩)):=by rw[<-hA5,Yl (by omega),Yl (by omega),<-hA3,Yl (by omega),Yl (by omega)];exact t2
    have u3:a5.tmps[3]?=some (.int .i64 0):=by rw[<-hA5,Yl (by omega),Yl (by omega),<-hA3,Yl (by omega),Yl (by omega)];exact t3
    have u19:a5.tmps[19]?=some (hpA h x):=by rw[<-hA5,Yl (by omega)];exact T8 (by omega)
    have u20:a5.tmps[20]?=some (.chan (some c)):=by rw[<-hA5];exact T8 (by rw[Xy];omega)
    have ud:a5.defers=[]:=by rw[<-hA5,<-hA3];exact hd2
    let K:Nat->Prop:=λb=>F b/\∃cs e fr,w3.heap[b]?=some (.cells cs e fr)
    have hrK:∀j,j<5->Rd w3 K (.sl ((lsH h j).map vu)) (x j):=λj hj=>by
     have h1:=ZaR (hrx j hj) (Zdc _);refine h1.keep (λb hb=>ho3 b ?_) λb hb=>⟨hb.1,?_⟩
     ·obtain⟨_,cs,e,fr,hb⟩:=hb;have:=(Zh0.1 hb).1;omega
     ·obtain⟨_,cs,e,fr,hb⟩:=hb;exact⟨cs,e,fr,by rw[ho3 b (by have:=(Zh0.1 hb).1;omega)];exact hb⟩
    obtain⟨n0,hn0,hfv,hfo⟩:=qc w3 (a5.tmps++ #[x 0,x 1,x 2,x 3,x 4])
    have hx:∀j,j<5->FixV n0 (x j):=λj hj=>by
     refine hfv _ (Zin.2 (.inr ?_))
     match j,hj with
     |0,_=>simp
     |1,_=>simp
     |2,_=>simp
     |3,_=>simp
     |4,_=>simp
     |j+5,h=>omega
    have hcn:c<n0:=by omega
    have nK1:¬K b1:=λh=>nF1 h.1;have nK2:¬K b2:=λh=>nF2 h.1;have hKl:∀b,K b->b<w3.heap.size:=λb ⟨_,_,_,_,hb⟩=>(Zh0.1 hb).1;have nKc:¬K c:=λ⟨_,_,_,_,hb⟩=>by rw[hch]at hb;cases hb
    refine Walk.meet (KA:=K) (KB:=K) (OA0:=λb=>b=b1\/b=b2) (c:=c) (λw=>Za8 (by simp[base]) u19 u20 w)
     (Z5U (fs:=frs h x 4 0) (fin:=YN h) hh us ud u1 u2 u3 u4 m1 m2 (by omega) hB1 hB2 h12 nK1 nK2 hn0 hcn (λb hb=>hb.2) (λb cs e fr hb=>hfo b cs e fr hb) (λv hv=>hfv v (Zin.2 (.inl hv))) hx hrK (ZcO hok hrK) (Z5e h x 4 0) (by
      have:=hok.n;rw[<-Z0n h x 4 0,ZhG]at this;exact this) (by rw[Z0n];rfl) hok.sm)
     (Z3n hh hn0 hcn (λb hb=>hb.2) (λb o ho hb=>by
      obtain⟨_,cs,e,fr,he⟩:=hb;rw[ho]at he;cases he;exact hfo b cs e fr ho) hx hrK hok.ob) hch (λb hb=>by rcases hb with rfl|rfl<;>omega) hKl hKl (λb hb=>by rcases hb with rfl|rfl<;>assumption) (λhb=>by rcases hb with hb|hb<;>omega) nKc nKc ?_
    rintro OA g w' ⟨fr,rfl,hfn,hm,hd,hkd,hres⟩ hsw htape hos hOA hfr;refine⟨fr,cs,rfl,hK fr w' hfn ⟨hm,hd,hkd,_,by rw[hfn];exact Try.func15,λd=> ?_⟩⟩;obtain⟨v,hv,hvr⟩:=hres d;refine⟨v,hv,v,rfl,⟨(Zi5 Prod.fst hos).trans hb3.os,htape.trans hb3.tape,(Zi5 Prod.snd hos).trans hb3.output,Zhr hb3.size hsw,λb hb=>(hfr b (by have:=hb3.size;omega) (λhb'=>by rcases hb' with rfl|rfl<;>omega) (by omega)).trans (hb3.block b hb)⟩,?_⟩;unfold ofR;rw[if_pos e1];refine hvr.mono λb hb=> ?_;obtain⟨hb,hlt⟩:=hb;rcases hb with hb|hb
    ·rcases hF b hb.1 with h1|h1
     ·exact .inl ⟨rfl,h1⟩
     ·exact .inr ⟨h1,hlt⟩
    ·exact .inr ⟨hb,hlt⟩
   |_=>exact hp.elim
 |_=>exact hp.elim
#print axioms Zbx
end Vm
end
section
namespace Vm
open Go Go.Proofs
def WT(l:List Ob):List (Int×Int):=(l.filter λo=>o.gone).map λo=>(o.size,o.ptrs)
def Z2Q{ws:List Int}{shs:List (Int×Int)}{old:Bool}:∀(l:List Ob) (f a tk:Nat) (acc:List Ob),Tiles ws old a l->ws.length<f+a->0<f->shs.drop tk=WT l->Xl ws shs old f a tk acc=(acc++l,0)
 | [],f,a,tk,acc,ht,hf,h0,hs=>by
   obtain⟨f,rfl⟩:∃f',f=f'+1:=⟨f-1,by omega⟩;have:ws.length<=a:=ht;have h2:shs.length<=tk:=List.drop_eq_nil_iff.1 hs;rw[Xl,ZhT this];simp only;rw[if_neg (by omega),Zi9]
 |o::l,f,a,tk,acc,ht,hf,h0,hs=>by
  obtain⟨f,rfl⟩:∃f',f=f'+1:=⟨f-1,by omega⟩;obtain⟨h1,h2,h3⟩:=ht;obtain⟨w,hw,hc⟩:=h2.word;have hsh:=Zf.1 h2.shape;have hfit:=h2.fits;have hsl:=h2.slots;rw[h1]at hw hfit hsl;simp only[Zhk]at hw hsl
  have hrec:∀tk':Nat,shs.drop tk'=WT l->Xl ws shs old f (a+1+o.size.toNat) tk' (acc++[o])=(acc++o::l,0):=λtk' hs'=>by
   rw[Z2Q l f _ tk' _ h3 (by omega) (by omega) hs'];simp
  have hobj:∃tk',objR shs old a tk w=some (o,tk')/\shs.drop tk'=WT l:=by
   unfold objR;cases hg:o.gone
   ·rw[hg]at hc;simp only[Zh7,ZhE]at hc;rw[if_neg (λh=>hc.1 h.1 h.2),hc.2.1];refine⟨tk,?_,?_⟩
    ·simp only[ZhC];obtain⟨oa,os,op,og,ot⟩:=o;simp only at hg h1 hc⊢;rw[hg,h1,hc.2.2]
    ·rw[hs];simp[WT,hg]
   ·rw[hg]at hc;simp only[ZhC]at hc;rw[if_pos ⟨hc.1,hc.2.1⟩];have hd:shs.drop tk=(o.size,o.ptrs)::WT l:=by rw[hs];simp[WT,hg]
    have hlt:tk<shs.length:=by
     have:=Zi5 List.length hd;simp at this;omega
    rw[ZhR hlt]at hd;have e1:=(List.cons.inj hd).1;have e2:=(List.cons.inj hd).2;rw[ZgV hlt,e1];simp only[h2.shape,ZhC];refine⟨tk+1,?_,e2⟩;obtain⟨oa,os,op,og,ot⟩:=o;simp only at hg h1 hc⊢;rw[hg,h1,hc.2.2]
  obtain⟨tk',ho,hs'⟩:=hobj;rw[Xl,hw];simp only;rw[ho];simp only;rw[if_neg (by omega),if_neg (by rw[hsl];simp)];exact hrec tk' hs'
def QC{ws:List Int}{shs:List (Int×Int)}{old:Bool}{l:List Ob}(ht:Tiles ws old 0 l)(hs:shs=WT l):Zy ws shs old=(l,0):=by
 unfold Zy;rw[Z2Q l (ws.length+1) 0 0 [] ht (by omega) (by omega) (by simpa using hs),Zi4]
def KO(h:Hp)(low l:List Ob):Prop:=∀o∈l,o.gone=true->∃q,atR h 1 low o.target=some q/\q.size=o.size/\q.ptrs=o.ptrs
def UL{h:Hp}{ws:List Int}{low:List Ob}:∀(l:List Ob) (f i:Nat) (acc:List (Int×Int)),Tiles ws true i l->ws.length<f+i->0<f->KO h low l->YH h ws low f i acc=some (acc++WT l)
 | [],f,i,acc,ht,hf,h0,hg=>by
   obtain⟨f,rfl⟩:∃f',f=f'+1:=⟨f-1,by omega⟩;have:ws.length<=i:=ht;rw[YH,ZhT this];simp[WT]
 |o::l,f,i,acc,ht,hf,h0,hg=>by
  obtain⟨f,rfl⟩:∃f',f=f'+1:=⟨f-1,by omega⟩;obtain⟨h1,h2,h3⟩:=ht;obtain⟨w,hw,hc⟩:=h2.word;have hsh:=Zf.1 h2.shape;have hfit:=h2.fits;rw[h1]at hw hfit;simp only[Zhk]at hw;have hg':KO h low l:=λq hq=>hg q (Zhp _ hq);rw[YH,hw];simp only;cases hgo:o.gone
  ·rw[hgo]at hc;simp only[Zh7,ZhE,true_implies]at hc;rw[if_neg hc.1,hc.2.1];simp only[ZhC];rw[UL l f _ acc h3 (by omega) (by omega) hg'];simp[WT,hgo]
  ·rw[hgo]at hc;simp only[ZhC,true_and]at hc;rw[if_pos hc.1];obtain⟨q,hq,e1,e2⟩:=hg o (.head _) hgo;rw[<-hc.2,hq];simp only;rw[e1,e2,UL l f _ _ h3 (by omega) (by omega) hg'];simp[WT,hgo]
def Z2t{h:Hp}{p:Pts}(h1:Tiles h.low false 0 p.low)(h2:Tiles h.high false 0 p.high)(h3:Tiles h.old true 0 p.old)(h4:Tiles h.far true 0 p.far)(g3:KO h p.low p.old)(g4:KO h p.low p.far):Yk h=some p:=by
 have ng:∀ {ws:List Int} {a:Nat} {l:List Ob},Tiles ws false a l->WT l=[]:=λ{ws a l} ht=>by
  unfold WT;rw[List.map_eq_nil_iff,List.filter_eq_nil_iff];intro o ho hg;obtain⟨w,_,hc⟩:=(ht.stands o ho).1.word;rw[if_pos hg]at hc;cases hc.1
 unfold Yk;rw[QC h1 (ng h1).symm,QC h2 (ng h2).symm];unfold YV;simp only[ne_eq,not_true_eq_false,or_self,ZhE];rw[UL p.old _ 0 [] h3 (by omega) (by omega) g3,UL p.far _ 0 [] h4 (by omega) (by omega) g4];simp only[Zi4,Zhm];rw[QC h3 rfl,QC h4 rfl];simp
def Z2C{h:Hp}{p:Pts}(hn:numR h=true)(hp:Yk h=some p)(hr:Sp h p=true):YA h=true:=by
 unfold YA;rw[hn,hp];simpa using hr
def Z97{h:Hp}{k:Int}{l:List Ob}{o:Ob}(ho:o∈l)(hd:∀q∈l,ZS h k q.at_=ZS h k o.at_->q=o):atR h k l (ZS h k o.at_)=some o:=by
 unfold atR
 induction l with
 |nil=>simp at ho
 |cons x l ih=>
  rw[Zk6];by_cases hx:ZS h k x.at_=ZS h k o.at_
  ·rw[hd x (.head _) hx];simp
  ·have:(ZS h k x.at_==ZS h k o.at_)=false:=by simpa using hx
   rw[this];rcases Zhe.1 ho with rfl|ho
   ·exact absurd rfl hx
   ·exact ih ho λq hq=>hd q (Zhp _ hq)
def SF{h:Hp}{k:Int}{l:List Ob}{a:Int}:(atR h k l a).isSome=true↔ ∃o∈l,ZS h k o.at_=a:=by
 unfold atR;rw[List.find?_isSome];simp
section
structure Tld (h:Hp) (p:Pts):Prop where
 lay:Zl (layH h)=true
 tiles:∀k:Int,1<=k/\k<=4->Tiles (Zm h k) (decide (2<k)) 0 (p.at k)
def Gos(h:Hp)(p:Pts)(w one two:Int):Prop:=w=0\/∃k o,(k=one\/k=two)/\o∈p.at k/\w=refR (layH h) k o.at_
def ym(h:Hp)(p:Pts)(k:Int)(i:Nat)(w:Int):Prop:=if 2<k then Gos h p w 3 4 else if k=1/\h.scan<=i then Gos h p w 1 2\/Gos h p w 3 4 else Gos h p w 1 2
section
variable {h:Hp}{p:Pts}
theorem Tld.ob(t:Tld h p){k:Int}(hk:1<=k/\k<=4){o:Ob}(ho:o∈p.at k):∃a n m:Nat,o.at_=a/\o.size=n/\o.ptrs=m/\a+(n+1)<=(Zm h k).length/\n<=255/\m<=n:=by
 have hs:=((t.tiles k hk).stands o ho).1;have h1:=Zf.1 hs.shape;obtain⟨a,ha⟩:=Zhf hs.nat;obtain⟨n,hn⟩:=Zhf h1.1;obtain⟨m,hm⟩:=Zhf h1.2.2.1;have:=hs.fits;exact⟨a,n,m,ha,hn,hm,by omega,by omega,by omega⟩
theorem Tld.start(t:Tld h p){k:Int}(hk:1<=k/\k<=4){o:Ob}(ho:o∈p.at k):ZS h k o.at_=fstL (layH h) k+o.at_:=by
 obtain⟨a,n,m,ha,_,_,hl,_⟩:=t.ob hk ho;unfold ZS;rw[SE t.lay hk (by rw[Va hk];omega)]
theorem Tld.same_at(t:Tld h p){k:Int}(hk:1<=k/\k<=4){o q:Ob}(ho:o∈p.at k)(hq:q∈p.at k)(e:q.at_=o.at_):q=o:=by
 rcases(t.tiles k hk).apart q hq o ho with h1|h1|h1
 ·exact h1
 ·have:=Zf.1 ((t.tiles k hk).stands q hq).1.shape;omega
 ·have:=Zf.1 ((t.tiles k hk).stands o ho).1.shape;omega
theorem Tld.find(t:Tld h p){k:Int}(hk:1<=k/\k<=4){o:Ob}(ho:o∈p.at k):atR h k (p.at k) (fstL (layH h) k+o.at_)=some o:=by
 rw[<-t.start hk ho];refine Z97 ho λq hq e=>t.same_at hk ho hq ?_;rw[t.start hk ho,t.start hk hq]at e;omega
theorem Tld.inj(t:Tld h p){k j:Int}(hk:1<=k/\k<=4)(hj:1<=j/\j<=4){o q:Ob}(ho:o∈p.at k)(hq:q∈p.at j)(e:refR (layH h) k o.at_=refR (layH h) j q.at_):k=j/\o=q:=by
 obtain⟨a,n,m,ha,_,_,hl,_⟩:=t.ob hk ho;obtain⟨b,n',m',hb,_,_,hl',_⟩:=t.ob hj hq;obtain⟨e1,e2⟩:=Z2y t.lay hk hj (by rw[Va hk];omega) (by rw[Va hj];omega) e;subst e1;exact⟨rfl,t.same_at hk hq ho e2⟩
theorem Tld.adr(t:Tld h p){k:Int}(hk:1<=k/\k<=4){o:Ob}(ho:o∈p.at k):adr (refR (layH h) k o.at_)=(fstL (layH h) k+o.at_,0):=by
 obtain⟨a,n,m,ha,_⟩:=t.ob hk ho;exact WC t.lay (by omega)
theorem Tld.at_iff(t:Tld h p){k:Int}(hk:1<=k/\k<=4){w:Int}(h0:(Vm.adr w).2=0):(atR h k (p.at k) (Vm.adr w).1).isSome=true↔ ∃o∈p.at k,w=refR (layH h) k o.at_:=by
 rw[SF];constructor
 ·rintro⟨o,ho,e⟩;rw[t.start hk ho]at e;exact⟨o,ho,Zbe h0 e.symm⟩
 ·rintro⟨o,ho,rfl⟩;exact⟨o,ho,by rw[t.adr hk ho,t.start hk ho]⟩
theorem Tld.goes_iff(t:Tld h p){i j:Int}(hi:1<=i/\i<=4)(hj:1<=j/\j<=4){w:Int}:Xr h p w i j=true↔Gos h p w i j:=by
 unfold Xr Gos;by_cases h0:w=0
 ·simp[h0]
 by_cases h1:(Vm.adr w).2=0
 ·simp only[h0,h1,ZjQ,Zl1,Zjn,Zks,Zhb,false_or,t.at_iff hi h1,t.at_iff hj h1];constructor
  ·rintro(⟨o,ho,e⟩|⟨o,ho,e⟩)
   ·exact⟨i,o,.inl rfl,ho,e⟩
   ·exact⟨j,o,.inr rfl,ho,e⟩
  ·rintro⟨k,o,rfl|rfl,ho,e⟩
   ·exact .inl ⟨o,ho,e⟩
   ·exact .inr ⟨o,ho,e⟩
 ·simp only[h0,h1,Zl1,Bool.false_and,Bool.or_self,Zh7,false_or,false_iff];rintro⟨k,o,hk,ho,rfl⟩;have hk4:1<=k/\k<=4:=by rcases hk with rfl|rfl<;>assumption
  exact h1 (by rw[t.adr hk4 ho])
theorem RY:∀ {l:List Int} {ptrs:Int} {i:Nat},Y2 l true ptrs i=true->∀w∈l,w=0
 | [],_,_,_,w,hw=>by simp at hw
 |y::l,ptrs,i,hs,w,hw=>by
  simp only[Y2,ZgY]at hs;rcases Zhe.1 hw with rfl|hw
  ·have h1:=hs.1;simp at h1;exact h1.1
  ·exact RY hs.2 w hw
theorem Tld.slot(t:Tld h p){k:Int}(hk:1<=k/\k<=4){o:Ob}(ho:o∈p.at k){j:Nat}(hj:(j:Int)<o.size):∃w,(Zm h k)[o.at_.toNat+1+j]?=some w/\(o.gone=true->w=0):=by
 obtain⟨a,n,m,ha,hn,hm,hl,_⟩:=t.ob hk ho;have hlt:a+1+j< (Zm h k).length:=by omega
 refine⟨(Zm h k)[a+1+j],by rw[ha,Zhk];exact ZgV hlt,λhg=> ?_⟩;have hs:=((t.tiles k hk).stands o ho).1.slots;rw[hg]at hs;refine RY hs _ ?_;rw[ha,hn,Zhk,Zhk];refine Zh2 (i:=j) ?_;rw[Zj0 (by omega),ZhF];exact ZgV hlt
end
structure Body (h:Hp) (p:Pts):Prop extends Tld h p where
 gone:∀k:Int,3<=k/\k<=4->∀o∈p.at k,o.gone=true->∃q∈p.low,o.target=fstL (layH h) 1+q.at_/\q.size=o.size/\q.ptrs=o.ptrs
 ptr:∀k:Int,1<=k/\k<=4->∀o∈p.at k,o.gone=false->∀j:Nat,(j:Int)<o.ptrs->∀w,(Zm h k)[o.at_.toNat+1+j]?=some w->ym h p k (o.at_.toNat+1+j) w
 room:(h.low.length:Int)+h.high.length+Z8Y p<=h.cap
structure Rt (h:Hp) (p:Pts):Prop extends Body h p where
 nroots:h.roots.length<=16
 scan0:0<=h.scan
 scanL:h.scan<=h.low.length
 cyc:h.cycle=true->h.scan<h.low.length
 rest:h.cycle=false->h.scan=h.low.length/\h.old=[]/\h.far=[]
 once:h.cycle=true->∀o∈p.low,Z77 p (fstL (layH h) 1+o.at_)=1
 roots:∀w∈h.roots,Gos h p w 1 2
section
variable {h:Hp}{p:Pts}
theorem yn(t:Tld h p){k:Int}{i:Nat}{w:Int}(hw:(Zm h k)[i]?=some w):Rf h p k i=true↔ym h p k i w:=by
 unfold Rf ym;simp only[hw,Zhm];split
 ·exact t.goes_iff (by omega) (by omega)
 split
 ·rw[Zhb,t.goes_iff (by omega) (by omega),t.goes_iff (by omega) (by omega)]
 ·exact t.goes_iff (by omega) (by omega)
theorem Z2Z(k:Int)(i:Nat):ym h p k i 0:=by
 unfold ym;split
 ·exact .inl rfl
 split
 ·exact .inl (.inl rfl)
 ·exact .inl rfl
theorem Z2w(t:Tld h p){k:Int}(hk:1<=k/\k<=4):WZ h p k=true↔ ∀o∈p.at k,o.gone=false->∀j:Nat,(j:Int)<o.ptrs->∀w,(Zm h k)[o.at_.toNat+1+j]?=some w->ym h p k (o.at_.toNat+1+j) w:=by
 unfold WZ Z2l;simp only[Zh5,Zir];constructor
 ·intro hp o ho _ j hj w hw;exact(yn t hw).1 (hp o ho j (by omega))
 ·intro hp o ho j hj;obtain⟨a,n,m,ha,hn,hm,hl,_⟩:=t.ob hk ho;obtain⟨w,hw,hz⟩:=t.slot hk ho (j:=j) (by omega);refine(yn t hw).2 ?_;cases hg:o.gone
  ·exact hp o ho hg j (by omega) w hw
  ·rw[hz hg];exact Z2Z _ _
theorem RightH.tld(r:RightH h p):Tld h p:=⟨r.lay,λk hk=>r.tiles hk⟩
theorem RightH.rt(r:RightH h p):Rt h p:=by
 have t:=r.tld;have hn:=r.num;have ho:=r.ok;unfold numR at hn;unfold Sp at ho;simp only[ZgY,Zhc]at hn ho;obtain⟨⟨⟨⟨n1,n2⟩,n3⟩,n4⟩,n5⟩:=hn;obtain⟨⟨⟨⟨⟨⟨o1,o2⟩,o3⟩,o4⟩,o5⟩,o6⟩,o7⟩:=ho
 have hptr:∀k:Int,1<=k/\k<=4->WZ h p k=true:=λk hk=>by
  have:k=1\/k=2\/k=3\/k=4:=by omega
  rcases this with rfl|rfl|rfl|rfl<;>assumption
 refine⟨⟨t,λk hk o ho hg=> ?_,λk hk=>(Z2w t hk).1 (hptr k hk),o7⟩,n2,n3,n4,λhc=> ?_,λhc=> ?_,λhc o ho=> ?_,λw hw=> ?_⟩
 ·obtain⟨q,hq,e,e1,e2⟩:=r.gone_low hk ho hg;exact⟨q,hq,by rw[<-e,t.start (k:=1) (by omega) hq],e1,e2⟩
 ·rw[hc]at n5;simpa using n5
 ·rw[hc]at n5;simp at n5;exact⟨n5.1.1,n5.1.2,n5.2⟩
 ·rw[hc]at o1;simp only[ZjD,Zjn,Zh5]at o1;have:=o1 o ho;unfold tgOk at this;rw[t.start (k:=1) (by omega) ho]at this;simpa using this
 ·exact(t.goes_iff (by omega) (by omega)).1 (Zh5.1 o2 w hw)
theorem Rt.parts(r:Rt h p):Yk h=some p:=by
 have g:∀k:Int,3<=k/\k<=4->KO h p.low (p.at k):=λk hk o ho hg=>by
  obtain⟨q,hq,e,e1,e2⟩:=r.gone k hk o ho hg;exact⟨q,by rw[e];exact r.toTld.find (k:=1) (by omega) hq,e1,e2⟩
 exact Z2t (r.tiles 1 (by omega)) (r.tiles 2 (by omega)) (r.tiles 3 (by omega)) (r.tiles 4 (by omega)) (g 3 (by omega)) (g 4 (by omega))
theorem Rt.right(r:Rt h p):YA h=true:=by
 have t:=r.toTld;refine Z2C ?_ r.parts ?_
 ·unfold numR;simp only[ZgY,Zhc];refine⟨⟨⟨⟨r.lay,r.nroots⟩,r.scan0⟩,r.scanL⟩,?_⟩;cases hc:h.cycle
  ·obtain⟨e1,e2,e3⟩:=r.rest hc;simp[e1,e2,e3]
  ·simp[r.cyc hc]
 ·unfold Sp;simp only[ZgY,Zhc];have hp:=λk hk=>(Z2w t hk).2 (r.ptr k hk);refine⟨⟨⟨⟨⟨⟨?_,?_⟩,hp 1 (by omega)⟩,hp 2 (by omega)⟩,hp 3 (by omega)⟩,hp 4 (by omega)⟩,r.room⟩
  ·cases hc:h.cycle
   ·rfl
   ·simp only[ZjD,Zjn,Zh5];intro o ho;unfold tgOk;rw[t.start (k:=1) (by omega) ho,Zhc];exact r.once hc o ho
  ·rw[Zh5];exactλw hw=>(t.goes_iff (by omega) (by omega)).2 (r.roots w hw)
theorem JY:YA h=true↔ ∃p,Rt h p:=
 ⟨λhr=>by obtain⟨p,r⟩:=Z6H hr;exact⟨p,r.rt⟩,λ⟨p,r⟩=>r.right⟩
theorem Rt.objs(r:Rt h p){k:Int}(hk:1<=k/\k<=4):Q8 h k=(p.at k,0):=by
 unfold Q8;rw[if_pos ⟨r.right,hk⟩,r.parts];rfl
end
end
def szL(l:List Ob):Nat:=(l.map λo=>1+o.size.toNat).sum
def Tiles.sum{ws:List Int}{old:Bool}:∀ {a:Nat} {l:List Ob},Tiles ws old a l->a<=ws.length->a+szL l=ws.length
 |a,[],h,ha=>by have:ws.length<=a:=h;simp[szL];omega
 |a,o::l,h,ha=>by
  have hs:=Zf.1 h.2.1.shape;have hf:=h.2.1.fits;rw[h.1]at hf;have:=Tiles.sum h.2.2 (by omega);simp[szL]at this⊢;omega
section
section
variable {h:Hp}{p:Pts}
theorem Sh(h:Hp){q:Nat}(hq:q<4):Zm h ((q:Int)+1)=lsH h q:=by
 have:q=0\/q=1\/q=2\/q=3:=by omega
 rcases this with rfl|rfl|rfl|rfl<;>rfl
theorem Rt.obQ(r:Rt h p){q:Nat}(hq:q<4):obP h q=p.at ((q:Int)+1):=by
 unfold Vm.obP;rw[r.objs (by omega)]
theorem Jf{f:Fo}:∀ {n q:Nat},f∈fos h n q->∃k o,q<=k/\k<q+n/\o∈obP h k/\f=foP h k o
 |0,q,hf=>by simp[fos]at hf
 |n+1,q,hf=>by
  simp only[fos,Zhn,Zh8]at hf;rcases hf with ⟨o,ho,rfl⟩|hf
  ·exact⟨q,o,by omega,by omega,ho,rfl⟩
  ·obtain⟨k,o,h1,h2,h3⟩:=Jf hf;exact⟨k,o,by omega,by omega,h3⟩
theorem Jx{k:Nat}{o:Ob}(ho:o∈obP h k):∀ {n q:Nat},q<=k->k<q+n->foP h k o∈fos h n q
 |0,q,h1,h2=>by omega
 |n+1,q,h1,h2=>by
  simp only[fos,Zhn,Zh8];by_cases e:k=q
  ·subst e;exact .inl ⟨o,ho,rfl⟩
  ·exact .inr (Jx ho (by omega) (by omega))
theorem ZdE(s:Vw)(f:Fo):(s.put f).ns=s.ns++if f.ob.gone then []else [f]:=by
 unfold Vw.put;split<;>simp
theorem Z5c:∀(l:List Fo) (s:Vw),(l.foldl Vw.put s).ns=s.ns++l.filter λf=> !f.ob.gone
 | [],s=>by simp
 |f::l,s=>by
  rw[Zjk,Z5c l,ZdE];cases hg:f.ob.gone<;>simp[hg]
theorem Z7g(h:Hp):(YN h).ns=(fos h 4 0).filter λf=> !f.ob.gone:=by
 unfold YN;rw[Z5c];rfl
theorem qX(r:Rt h p){q:Nat}(hq:q<4):(obP h q).length<=(lsH h q).length:=by
 have t:=r.tiles ((q:Int)+1) (by omega);have:=t.sum (Zia _);rw[Sh h hq,<-r.obQ hq]at this
 have hle:(obP h q).length<=szL (obP h q):=by
  generalize obP h q=l
  induction l with
  |nil=>simp
  |cons o l ih=>simp only[szL,Zho,List.sum_cons,Zi0]at ih⊢;omega
 omega
theorem Rt.len4(r:Rt h p){q:Nat}(hq:q<4):(lsH h q).length<=4096:=by
 obtain⟨h1,h2,_,_,_,⟨_,_,h5,h6⟩,⟨_,_,h7,h8⟩⟩:=YL.1 r.lay;simp only[layH]at*;have:q=0\/q=1\/q=2\/q=3:=by omega
 rcases this with rfl|rfl|rfl|rfl
 ·show h.low.length<=4096;omega
 ·show h.high.length<=4096;omega
 ·show h.old.length<=4096;omega
 ·show h.far.length<=4096;omega
theorem Rt.ob4(r:Rt h p){q:Nat}(hq:q<4){o:Ob}(ho:o∈obP h q):∃a n m:Nat,o.at_=a/\o.size=n/\o.ptrs=m/\a+(n+1)<=(lsH h q).length/\n<=255/\m<=n:=by
 rw[r.obQ hq]at ho;have:=r.toTld.ob (by omega) ho;rwa[Sh h hq]at this
theorem lsW(hh:h.ok){q:Nat}(hq:q<4):∀w∈lsH h q,U64 w:=by
 have:q=0\/q=1\/q=2\/q=3:=by omega
 rcases this with rfl|rfl|rfl|rfl
 ·exact hh.lowW
 ·exact hh.highW
 ·exact hh.oldW
 ·exact hh.farW
theorem Z0m(r:Rt h p){q:Nat}(hq:q<4){o:Ob}(ho:o∈obP h q):(foP h q o).sl.length=o.size.toNat:=by
 obtain⟨a,n,m,h1,h2,h3,h4,_⟩:=r.ob4 hq ho;simp only[foP,Zie,Zj8];omega
theorem Rt.ofOk(r:Rt h p)(hh:h.ok):OfOk h:=by
 have hl:(fos h 4 0).length<=16384:=by
  have h0:=qX r (q:=0) (by omega);have h1:=qX r (q:=1) (by omega);have h2:=qX r (q:=2) (by omega);have h3:=qX r (q:=3) (by omega);have k0:=r.len4 (q:=0) (by omega);have k1:=r.len4 (q:=1) (by omega);have k2:=r.len4 (q:=2) (by omega);have k3:=r.len4 (q:=3) (by omega);simp only[fos,Zib,ZhG,ZiM,ZhK,Nat.reduceAdd];omega
 refine⟨λq hq=>⟨by have:=qX r hq;have:=r.len4 hq;omega,λo ho=> ?_⟩,by omega,⟨?_,λf hf=> ?_,by have:=r.nroots;omega,hh.rootsW⟩⟩
 ·obtain⟨a,n,m,h1,h2,h3,h4,_⟩:=r.ob4 hq ho;omega
 ·rw[Z7g];have:=ZkO (λf:Fo=> !f.ob.gone) (fos h 4 0);omega
 ·rw[Z7g]at hf;obtain⟨k,o,_,hk,ho,rfl⟩:=Jf (ZjH.1 hf).1;obtain⟨a,n,m,h1,h2,h3,h4,h5,h6⟩:=r.ob4 (by omega) ho;have e:=Z0m r (by omega) ho;refine⟨by show 0<=o.ptrs;omega,by show o.ptrs<=_;rw[e];omega,by rw[e];omega,λw hw=>lsW hh (q:=k) (by omega) w ?_⟩;exact Ziu (ZhM hw)
theorem ofOk(hh:h.ok)(hr:YA h=true):OfOk h:=by
 obtain⟨p,r⟩:=JY.1 hr;exact r.ofOk hh
end
theorem Zby{h:Hp}(hh:h.ok):VC (bes Try.prog) 15 false [hpV h] (ofR h):=Zbx hh (ofOk hh)
end
section
structure VwI (d:List Fo) (s:Vw):Prop where
 ns:s.ns=d.filter λf=> !f.ob.gone
 n1:∀a j,getA s.nm a=some j->∃i:Nat,j=i/\∃f,s.ns[i]?=some f/\f.ad=a
 n2:∀f∈s.ns,(getA s.nm f.ad).isSome=true
 t1:∀a t,getA s.tm a=some t->∃f∈d,f.ob.gone=true/\f.ad=a/\f.ob.target=t
 t2:∀f∈d,f.ob.gone=true->(getA s.tm f.ad).isSome=true
theorem Ux{α:Type}{l:List (Int×α)}{k j:Int}{x:α}(h:k=j\/(getA l j).isSome=true):(getA (putA l k x) j).isSome=true:=by
 rw[Uv];split
 ·rfl
 ·rename_i hn;rcases h with h|h
  ·exact absurd h hn
  ·exact h
theorem VwI.put{d:List Fo}{s:Vw}{f:Fo}(i:VwI d s):VwI (d++[f]) (s.put f):=by
 cases hg:f.ob.gone
 ·have e:s.put f= {s with ns:=s.ns++[f],nm:=putA s.nm f.ad s.ns.length}:=by simp[Vw.put,hg]
  rw[e];refine⟨by simp[i.ns,hg],λa j hj=> ?_,λx hx=> ?_,λa t ht=> ?_,λx hx hxg=> ?_⟩
  ·simp only[Uv]at hj;split at hj
   ·rename_i ha;exact⟨s.ns.length,by simpa using hj.symm,f,by simp,ha⟩
   ·obtain⟨m,e1,g,e2,e3⟩:=i.n1 a j hj;exact⟨m,e1,g,by simp only[Zhz (ZgX.1 e2).1,e2],e3⟩
  ·rcases Zhn.1 hx with hx|hx
   ·exact Ux (.inr (i.n2 x hx))
   ·rw[ZhU.1 hx];exact Ux (.inl rfl)
  ·obtain⟨g,h1,h2⟩:=i.t1 a t ht;exact⟨g,by simp[h1],h2⟩
  ·rcases Zhn.1 hx with hx|hx
   ·exact i.t2 x hx hxg
   ·rw[ZhU.1 hx,hg]at hxg;exact absurd hxg (by simp)
 ·have e:s.put f= {s with tm:=putA s.tm f.ad f.ob.target}:=by simp[Vw.put,hg]
  rw[e];refine⟨by simp[i.ns,hg],i.n1,i.n2,λa t ht=> ?_,λx hx hxg=> ?_⟩
  ·simp only[Uv]at ht;split at ht
   ·rename_i ha;exact⟨f,by simp,hg,ha,by simpa using ht⟩
   ·obtain⟨g,h1,h2⟩:=i.t1 a t ht;exact⟨g,by simp[h1],h2⟩
  ·rcases Zhn.1 hx with hx|hx
   ·exact Ux (.inr (i.t2 x hx hxg))
   ·rw[ZhU.1 hx];exact Ux (.inl rfl)
theorem VwI.fold:∀ {l d:List Fo} {s:Vw},VwI d s->VwI (d++l) (l.foldl Vw.put s)
 | [],d,s,i=>by simpa using i
 |f::l,d,s,i=>by
  have:=VwI.fold (l:=l) (i.put (f:=f));rwa[ZhZ]at this
theorem yh(h:Hp):VwI (fos h 4 0) (YN h):=by
 have:VwI [] ⟨[],[],[]⟩:=⟨rfl,by simp[getA],by simp,by simp[getA],by simp⟩;exact this.fold (l:=fos h 4 0)
section
variable {h:Hp}{p:Pts}
theorem Je(r:Rt h p){q:Nat}(hq:q<4){o:Ob}(ho:o∈obP h q):(foP h q o).ad=fstL (layH h) ((q:Int)+1)+o.at_:=by
 obtain⟨a,n,m,h1,h2,h3,h4,_⟩:=r.ob4 hq ho;show(ZJ (layH h) ((q:Int)+1) o.at_).1=_;rw[SE r.lay (by omega) (by rw[Va (by omega),Sh h hq];omega)]
theorem qf(r:Rt h p){f g:Fo}(hf:f∈fos h 4 0)(hg:g∈fos h 4 0)(e:f.ad=g.ad):f=g:=by
 obtain⟨k,o,_,hk,ho,rfl⟩:=Jf hf;obtain⟨j,q,_,hj,hq,rfl⟩:=Jf hg;rw[Je r (by omega) ho,Je r (by omega) hq]at e;have ho':=ho;have hq':=hq;rw[r.obQ (by omega)]at ho' hq';obtain⟨e1,e2⟩:=r.toTld.inj (by omega) (by omega) ho' hq' (by unfold refR;omega);have:k=j:=by omega
 subst this;rw[e2]
theorem Z5Z{f:Fo}:f∈(YN h).ns↔f∈fos h 4 0/\f.ob.gone=false:=by
 rw[(yh h).ns];simp
theorem Rt.to_nm(r:Rt h p){f:Fo}(hf:f∈fos h 4 0)(hg:f.ob.gone=false):∃i:Nat,getA (YN h).nm f.ad=some (i:Int)/\(YN h).ns[i]?=some f:=by
 obtain⟨j,hj⟩:=ZhY.1 ((yh h).n2 f (Z5Z.2 ⟨hf,hg⟩));obtain⟨i,rfl,g,h1,h2⟩:=(yh h).n1 _ _ hj;have:=qf r (Z5Z.1 (Zh2 h1)).1 hf h2;subst this;exact⟨i,hj,h1⟩
theorem Rt.to_live(r:Rt h p){f:Fo}(hf:f∈fos h 4 0)(hg:f.ob.gone=false){w:Int}(hw:w≠0)(ha:(adr w).1=f.ad):∃i:Nat,(YN h).toA w=i/\(YN h).ns[i]?=some f:=by
 obtain⟨i,h1,h2⟩:=r.to_nm hf hg;refine⟨i,?_,h2⟩
 have:getA (YN h).tm f.ad=none:=by
  cases ht:getA (YN h).tm f.ad with
  |none=>rfl
  |some t=>
   obtain⟨g,k1,k2,k3,_⟩:=(yh h).t1 _ _ ht;rw[qf r k1 hf k3,hg]at k2;exact absurd k2 (by simp)
 unfold Vw.toA;rw[if_neg hw,ha,this,Zkz,h1,Zhm]
theorem Rt.to_gone(r:Rt h p){f g:Fo}(hf:f∈fos h 4 0)(hg:f.ob.gone=true)(gf:g∈fos h 4 0)(gg:g.ob.gone=false)(ht:f.ob.target=g.ad){w:Int}(hw:w≠0)(ha:(adr w).1=f.ad):∃i:Nat,(YN h).toA w=i/\(YN h).ns[i]?=some g:=by
 obtain⟨i,h1,h2⟩:=r.to_nm gf gg;refine⟨i,?_,h2⟩;obtain⟨t,e⟩:=ZhY.1 ((yh h).t2 f hf hg);obtain⟨x,k1,k2,k3,k4⟩:=(yh h).t1 _ _ e;rw[qf r k1 hf k3,ht]at k4;unfold Vw.toA;rw[if_neg hw,ha,e,Zhm,<-k4,h1,Zhm]
theorem Rt.live12(r:Rt h p){q:Nat}(hq:q<2){o:Ob}(ho:o∈obP h q):o.gone=false:=by
 rw[r.obQ (by omega)]at ho;obtain⟨w,_,hw⟩:=((r.tiles ((q:Int)+1) (by omega)).stands o ho).1.word;cases hg:o.gone
 ·rfl
 ·rw[hg,if_pos rfl]at hw;have:=hw.1;simp at this;omega
theorem Rt.gos(r:Rt h p){w i j:Int}(hi:1<=i/\i<=4)(hj:1<=j/\j<=4)(hw:Gos h p w i j)(h0:w≠0):∃(q:Nat) (o:Ob),q<4/\(((q:Int)+1=i)\/((q:Int)+1=j))/\o∈obP h q/\w=2*(foP h q o).ad+1/\(adr w).1=(foP h q o).ad:=by
 rcases hw with rfl|⟨k,o,hk,ho,rfl⟩
 ·exact absurd rfl h0
 obtain⟨q,rfl,hq⟩:∃q:Nat,k=(q:Int)+1/\q<4:=⟨(k-1).toNat,by omega,by omega⟩;have ho':o∈obP h q:=by rw[r.obQ hq];exact ho
 refine⟨q,o,hq,hk,ho',?_,?_⟩
 ·rw[Je r hq ho'];rfl
 ·rw[r.toTld.adr (by omega) ho,Je r hq ho']
theorem Rt.to_any(r:Rt h p){w i j:Int}(hi:1<=i/\i<=4)(hj:1<=j/\j<=4)(hw:Gos h p w i j)(h0:w≠0):∃(n:Nat),(YN h).toA w=n/\n< (YN h).ns.length:=by
 obtain⟨q,o,hq,hk,ho,_,ha⟩:=r.gos hi hj hw h0;have hf:foP h q o∈fos h 4 0:=Jx ho (by omega) (by omega);cases hg:o.gone
 ·obtain⟨n,h1,h2⟩:=r.to_live hf hg h0 ha;exact⟨n,h1,(ZgX.1 h2).1⟩
 ·have h3:2<=q:=by
   by_cases hl:q<2
   ·rw[r.live12 hl ho]at hg;exact absurd hg (by simp)
   ·omega
  have ho':=ho;rw[r.obQ hq]at ho';obtain⟨t,ht,h4,_⟩:=r.gone ((q:Int)+1) (by omega) o ho' hg;have ht':t∈obP h 0:=by rw[r.obQ (by omega)];exact ht
  obtain⟨n,h1,h2⟩:=r.to_gone hf hg (g:=foP h 0 t) (Jx ht' (by omega) (by omega)) (r.live12 (by omega) ht') (by rw[Je r (by omega) ht'];exact h4) h0 ha;exact⟨n,h1,(ZgX.1 h2).1⟩
theorem Rt.to_in(r:Rt h p){w i j:Int}(hi:1<=i/\i<=4)(hj:1<=j/\j<=4)(hw:Gos h p w i j):inR (YN h).ns.length ((YN h).toA w)=true:=by
 by_cases h0:w=0
 ·subst h0;simp[Vw.toA,inR];omega
 ·obtain⟨n,h1,h2⟩:=r.to_any hi hj hw h0;rw[h1];simp[inR];omega
theorem ZaQ{k:Int}{i:Nat}{w:Int}(hw:ym h p k i w):∃a b:Int,(1<=a/\a<=4)/\(1<=b/\b<=4)/\Gos h p w a b:=by
 unfold ym at hw;split at hw
 ·exact⟨3,4,by omega,by omega,hw⟩
 ·split at hw
  ·rcases hw with hw|hw
   ·exact⟨1,2,by omega,by omega,hw⟩
   ·exact⟨3,4,by omega,by omega,hw⟩
  ·exact⟨1,2,by omega,by omega,hw⟩
theorem Rt.view_right(r:Rt h p){roots:List Int}(hl:roots.length<=16)(hr:∀w∈roots,Gos h p w 1 2):Vm.right ((YN h).gr roots)=true:=by
 simp only[Vm.right,ZgY,Zh5,Zhc,Vw.gr,ZhG,Zh8];refine⟨⟨hl,?_⟩,?_⟩
 ·rintro _ ⟨f,hf,rfl⟩;obtain⟨hf1,hg⟩:=Z5Z.1 hf;obtain⟨q,o,_,hq,ho,rfl⟩:=Jf hf1;obtain⟨a,n,m,h1,h2,h3,h4,h5,h6⟩:=r.ob4 (by omega) ho;have e:=Z0m r (by omega) ho;simp only[U5,ndF,ZgY,Zh5,Zhc,ZhG,Zie,Zj8,Zh8];refine⟨by omega,?_⟩;rintro _ ⟨w,hw,rfl⟩;obtain⟨j,hj⟩:=Zhl hw;have hjl:=(ZgX.1 hj).1;rw[Zie]at hjl;have hop:(foP h q o).ob.ptrs=o.ptrs:=rfl;rw[hop]at hj hjl;rw[Zj0 (by omega)]at hj;have ho':=ho;rw[r.obQ (by omega)]at ho'
  have hw':(Zm h ((q:Int)+1))[o.at_.toNat+1+j]?=some w:=by
   rw[Sh h (by omega)];simp only[foP]at hj;rw[Zj0 (by omega),ZhF]at hj;rw[<-hj];congr 1;omega
  obtain⟨i,k,hi,hk,hG⟩:=ZaQ (r.ptr ((q:Int)+1) (by omega) o ho' hg j (by omega) w hw');exact r.to_in hi hk hG
 ·rintro _ ⟨w,hw,rfl⟩;exact r.to_in (by omega) (by omega) (hr w hw)
end
end
end Vm
end
section
namespace Vm
open Go
open Go.Proofs
def p4:Fn:=⟨16,[0,1,2,3,4,5,6,7,55,8,60,86,9,89,114,10],
pQ [pR [(1,pS 0 7),pV 2 pF],pC [pK 16 13 []] [pV 3 (.s 16)],pC [pK 17 16 [.mm 1 0 7]] [(4,pS 17 10)],pC [pK 18 20 [.mm 4 0 10]] [pV 5 (.s 18)],pC [pK 19 15 [.mm 4 0 10]] [(6,pM (.sz (.ext (.s 19) 0) 2) 2),pV 7 (.ext (.s 19) 1)],pQ [.reg ⟨[.lt 20 [] (.bin .neq (.s 7) (pI 0)),.call 21 [(20,false)] (.id 21) false false [.mm 6 0 2],.lt 22 [] (.ite (.s 20) pT (.bin .neq (.s 5) (.s 21))),.lt 23 [] (.ite (.s 22) pT (.bin .lss (.s 5) (pI 0))),.call 24 [(23,false)] (.id 22) false false [.mm 4 0 10],.lt 25 [] (.ite (.s 23) pT (.bin .gtr (.s 5) (.bin .add (.bin .add (.len (.m 4 5)) (.len (.m 4 6))) (.s 24))))],[([(20,false)],.bin .neq (.s 5) (.s 21)),([(22,false)],.bin .lss (.s 5) (pI 0)),([(23,false)],.bin .gtr (.s 5) (.bin .add (.bin .add (.len (.m 4 5)) (.len (.m 4 6))) (.s 24))),([(25,false)],.bin .neq (.len (.m 6 1)) (.len (.m 4 9)))],[pV 8 (.ite (.s 25) pT (.bin .neq (.len (.m 6 1)) (.len (.m 4 9))))]⟩] (.cond (.s 8) (pQ [pR [pV 2 pF]] .ret) .skip),pQ [pR [pV 9 (pI 0)]] (.block 0 (.loop [0,1,2,3,4,5,6,7,8,9] (pQ [pQ [pR [pV 10 (.bin .lss (.s 9) (.len (.m 4 9)))]] (.cond (.s 10) .skip (.exit 0)),.block 1 (pQ [pQ [.reg ⟨[.lt 26 [] (.eqv true (.bin .eql (.fld (.idx (.m 4 9) (.s 9) 1) 0) (pU 0)) (.bin .eql (.fld (.idx (.m 6 1) (.s 9) 1) 0) (pI (-1))))],[([(26,false)],.bin .geq (.fld (.idx (.m 6 1) (.s 9) 1) 0) (.len (.m 6 0)))],[pV 11 (.ite (.s 26) pT (.bin .geq (.fld (.idx (.m 6 1) (.s 9) 1) 0) (.len (.m 6 0))))]⟩] (.cond (.s 11) (pQ [pR [pV 2 pF]] .ret) .skip),pR [pV 12 (pI 0)]] (.block 2 (.loop [0,1,2,3,4,5,6,7,8,9,10,11,12] (pQ [pQ [pR [pV 13 (.bin .lss (.s 12) (.s 9))]] (.cond (.s 13) .skip (.exit 2)),.block 3 (pQ [pR [pV 14 (.eqv true (.bin .eql (.fld (.idx (.m 4 9) (.s 9) 1) 0) (.fld (.idx (.m 4 9) (.s 12) 1) 0)) (.bin .eql (.fld (.idx (.m 6 1) (.s 9) 1) 0) (.fld (.idx (.m 6 1) (.s 12) 1) 0)))]] (.cond (.s 14) (pQ [pR [pV 2 pF]] .ret) .skip))] (pR [pV 12 (.bin .add (.s 12) (pI 1))])))))] (pR [pV 9 (.bin .add (.s 9) (pI 1))])))),pR [(15,pM (.mm 4 0 10) 10)],pR [(15,.m [.m 15 0,.m 15 1,.m 15 2,.m 15 3,.m 15 4,.m 15 5,.m 15 6,.m 15 7,.m 15 8,.mk (.int .u64 0) (.len (.m 4 9))])],.reg ⟨[.lt 27 [] (.s 3),.call 28 [(27,true)] (.id 20) false true [.mm 15 0 10]],[([(27,true)],.bin .eql (.s 28) (pI 0))],[pV 2 (.ite (.s 27) (.bin .eql (.s 28) (pI 0)) pF)]⟩] .ret,[(2,.v)]⟩
def c4:Zh (bes Try.prog) fresh sig [.fz] [] Try.f4=some p4:=by kernel_rfl
def p13:Fn:=⟨9,[0,1,2,3,4,5,6,7,8],
pQ [pR [pV 0 pF],.reg ⟨[],[([],.ag [pU 10,pI 5,pI 0,pF,pI 2,.lit [pU 2,pU 6],pN,pN,pN,.lit [pU 21,pU 0]])],[(1,.m [pU 10,pI 5,pI 0,pF,pI 2,.lit [pU 2,pU 6],pN,pN,pN,.lit [pU 21,pU 0]])]⟩,pC [pK 9 15 [.mm 1 0 10]] [(2,pM (.sz (.ext (.s 9) 0) 2) 2),pV 3 (.fl (.ext (.s 9) 1))],pC [pK 10 15 [pY]] [(4,pM (.sz (.ext (.s 10) 0) 2) 2),pV 5 (.ext (.s 10) 1)],.reg ⟨[],[([],.ag [pU 10,pI 5,pI 1,pT,pI 0,.lit [pU 2,pU 6],pN,.lit [pU 31,pU 0],pN,.lit [pU 31,pU 0]])],[(6,.m [pU 10,pI 5,pI 1,pT,pI 0,.lit [pU 2,pU 6],pN,.lit [pU 31,pU 0],pN,.lit [pU 31,pU 0]])]⟩,pC [pK 11 15 [.mm 6 0 10]] [(7,pM (.sz (.ext (.s 11) 0) 2) 2),pV 8 (.fl (.ext (.s 11) 1))],.reg ⟨[.lt 12 [] (.bin .eql (.s 3) (pI 0)),.call 13 [(12,true)] (.id 18) false false [.mm 2 0 2,.ag [.lit [.ag [pN,.lit [pU 6]]],.lit [pI 0,pI (-1)]]],.lt 14 [] (.ite (.s 12) (.s 13) pF),.lt 15 [] (.ite (.s 14) (.bin .eql (.s 5) (pI 1)) pF),.lt 16 [] (.ite (.s 15) (.bin .eql (.s 8) (pI 0)) pF),.call 17 [(16,true)] (.id 18) false false [.mm 7 0 2,.mm 2 0 2],.lt 18 [] (.ite (.s 16) (.s 17) pF),.call 19 [(18,true)] (.id 20) false false [.mm 1 0 10],.lt 20 [] (.ite (.s 18) (.bin .eql (.s 19) (pI 2)) pF),.call 21 [(20,true)] (.id 20) false false [pY]],[([(14,true)],.bin .eql (.s 5) (pI 1)),([(15,true)],.bin .eql (.s 8) (pI 0)),([(18,true)],.bin .eql (.s 19) (pI 2)),([(20,true)],.bin .eql (.s 21) (pI 0))],[pV 0 (.ite (.s 20) (.bin .eql (.s 21) (pI 0)) pF)]⟩] .ret,[(0,.v)]⟩
def c13:Zh (bes Try.prog) fresh sig [] [] Try.f13=some p13:=by kernel_rfl
def p20:Fn:=⟨6,[0,1,2,3,4,11],
pQ [pR [(1,pS 0 10),pV 2 (pI 0)],pC [pK 6 15 [.mm 1 0 10]] [(3,pM (.sz (.ext (.s 6) 0) 2) 2),pV 4 (.ext (.s 6) 1)],pQ [pR [pV 5 (.bin .neq (.s 4) (pI 0))]] (.cond (.s 5) (pQ [pR [pV 2 (pI 0)]] .ret) .skip),pC [pK 7 21 [.mm 3 0 2]] [pV 2 (.s 7)]] .ret,[(2,.v)]⟩
def c20:Zh (bes Try.prog) fresh sig [.fz] [] Try.f20=some p20:=by kernel_rfl
end Vm
end
section
namespace Vm
open Go Go.Proofs
theorem L9{P:Program}{f:FuncId}{fn:Func}{c:Code}(h1:P.funcs[f]?=some fn)(h2:fn.body=some c)(h3:Kr P c=true):FitF (bes P) f:=⟨λg d hg hd=>by
 have e:(bes P).funcs[f]?=P.funcs[f]? :=rfl;rw[e,h1]at hg;cases hg;rw[h2]at hd;cases hd;exact Z1M h3⟩
def Zd9(l:List Int):NoM (.sl (l.map vi)):=.sl _ λc hc=>by
 have:flat (l.map vi)=l.map vi:=YJ λx hx=>by obtain⟨y,_,rfl⟩:=Zh8.1 hx;rfl
 rw[this]at hc;obtain⟨y,_,rfl⟩:=Zh8.1 hc;exact .int _ _
def Se(g:Gr):NoM (grV g):=(Z9n g).m
def nom1{x:V}(h:NoM x):∀y∈[x],NoM y:=λy hy=>by rw[ZhU.1 hy];exact h
def nom2{x z:V}(h:NoM x)(k:NoM z):∀y∈[x,z],NoM y:=λy hy=>by
 simp only[Zhe,Zij,ZjL]at hy;rcases hy with rfl|rfl
 ·exact h
 ·exact k
def up{f:FuncId}{args:List V}{r:V}(hv:VC Sol.prog f false args r)(ha:∀x∈args,NoM x)(hr:NoM r):VC (bes Try.prog) f false args r:=Z5K Sol.sub hv ha hr
def Z4E{g:Gr}(hg:g.sm):VC (bes Try.prog) 21 false [grV g] (vi (words g)):=up (Z7u hg) (nom1 (Se g)) (.int _ _)
def Z1F{a b:Gr}(ha:a.sm):VC (bes Try.prog) 18 false [grV a,grV b] (.bool (decide (a=b))):=up (Z9N ha) (nom2 (Se a) (Se b)) (.bool _)
def vg(h:Hp):Gr:=(YN h).gr h.roots
def ofG(h:Hp):Gr×Int:=if YA h=true/\right (vg h)=true then(Yn (vg h),0)else(noGr,1)
def Zdg(h:Hp):ofR h=.tup [grV (ofG h).1,vi (ofG h).2]:=by
 unfold ofR ofG XA vg;by_cases h1:YA h=true
 ·rw[if_pos h1];by_cases h2:right ((YN h).gr h.roots)=true
  ·rw[if_pos h2,if_pos ⟨h1,h2⟩]
  ·rw[if_neg h2,if_neg λx=>h2 x.2]
 ·rw[if_neg h1,if_neg λx=>h1 x.1]
def Z9p{h:Hp}(hh:h.ok):(ofG h).1.sm:=by
 unfold ofG;split
 ·rename_i k;exact Z1O (ofOk hh k.1).sm.gr k.2
 ·exact⟨by simp[noGr],by simp[noGr],by simp[noGr]⟩
def yl{h:Hp}(hh:h.ok):VC (bes Try.prog) 15 false [hpV h] (.tup [grV (ofG h).1,vi (ofG h).2]):=by
 rw[<-Zdg];exact Zby hh
def Z7Z(h:Hp):Nat:=if(ofG h).2=0 then words (ofG h).1 else 0
instance fitLive:FitF (bes Try.prog) 20:=L9 (P:=Try.prog) Try.func20 rfl (by kernel_rfl)
def Z4z{h:Hp}(hh:h.ok):VC (bes Try.prog) 20 false [hpV h] (vi (Z7Z h)):=by
 refine Z9 (P:=bes Try.prog) Try.func20 TX (by kernel_rfl) c20 rfl ?_;have k:=yl hh;have ks:=Z9p hh;unfold Z7Z;generalize ofG h=g at*;obtain⟨g,e⟩:=g;simp only at k ks⊢;simp[p20];refine Z1 k (by simp) ?_;by_cases he:e=0
 ·simp[he];refine Z1 (Z4E ks) (by simp) ?_;simp
 ·simp[he]
def ey1:Hp:=⟨10,5,0,false,2,[2,6],[],[],[],[21,0]⟩
def ey2:Hp:=⟨10,5,1,true,0,[2,6],[],[31,0],[],[31,0]⟩
def eyG:Gr:=⟨[⟨[],[6]⟩],[0,-1]⟩
def Z9e:ey1.ok:=by refine⟨?_,?_,?_,?_,?_,?_,?_,?_,?_,?_,?_,?_,?_,?_⟩<;>simp[ey1,U64,Fit]
def ZbT:ey2.ok:=by refine⟨?_,?_,?_,?_,?_,?_,?_,?_,?_,?_,?_,?_,?_,?_⟩<;>simp[ey2,U64,Fit]
instance fitAwake:FitF (bes Try.prog) 13:=L9 (P:=Try.prog) Try.func13 rfl (by kernel_rfl)
def Z32:VC (bes Try.prog) 13 false [] (.bool true):=by
 refine Z9 (P:=bes Try.prog) Try.func13 TX (by kernel_rfl) c13 rfl ?_;have hfl:flV (vi 0)=some (vi 0):=by rfl
 have r1:ofG ey1=(eyG,0):=by decide+kernel
 have r2:ofG Hp.zero=(noGr,1):=by decide+kernel
 have r3:ofG ey2=(eyG,0):=by decide+kernel
 have l1:Z7Z ey1=2:=by decide+kernel
 have l2:Z7Z Hp.zero=0:=by decide+kernel
 have a1:=yl Z9e;have a2:=yl Hp.zero_ok;have a3:=yl ZbT;have b1:=Z4z Z9e;have b2:=Z4z Hp.zero_ok;have s1:=Z1F (a:=eyG) (b:=eyG) (by simp[eyG,Gr.sm]);rw[r1]at a1;rw[r2]at a2;rw[r3]at a3;rw[l1]at b1;rw[l2]at b2;simp[ey1,ey2,eyG,Hp.zero,hpV,grV,ndV,noGr]at a1 a2 a3 b1 b2 s1;simp[p13];refine Z1 a1 (by simp) ?_;simp[hfl];refine Z1 a2 (by simp) ?_;simp[hfl];refine Z1 a3 (by simp) ?_;simp[hfl];refine Z1 s1 (by simp) ?_;simp[hfl];refine Z1 s1 (by simp) ?_;simp[hfl];refine Z1 b1 (by simp) ?_;simp[hfl];refine Z1 b2 (by simp) ?_;simp[hfl]
end Vm
end
section

end
section
namespace Vm
open Go Go.Proofs
section
theorem Rb{h:Hp}{k j:Int}(hk:1<=k/\k<=4)(hj:1<=j/\j<=4)(l:List Int):Zm (Ve h k l) j=if j=k then l else Zm h j:=by
 have h1:k=1\/k=2\/k=3\/k=4:=by omega
 have h2:j=1\/j=2\/j=3\/j=4:=by omega
 rcases h1 with rfl|rfl|rfl|rfl<;>rcases h2 with rfl|rfl|rfl|rfl<;>rfl
def ndAt(b:Bt)(i:Nat):Nd:=(b.g.nodes[i]?).getD default
def Z6(b:Bt)(i:Nat):Pl:=(b.here[i]?).getD ⟨0,0⟩
def Zt(b:Bt)(i:Nat):Pl:=(b.old[i]?).getD ⟨0,0⟩
def hdrN(n:Nd):Int:=(Q9 ((n.ptrs.length:Int)+n.data.length) n.ptrs.length).1
def Xs(b:Bt)(p:Pl)(n:Nd)(tw:Int):List Int:=hdrN n::(ZY b p p.at_.toNat n.ptrs tw++n.data)
def TZ(b:Bt)(p:Pl)(n:Nd):List Int:=refB b.h p::List.replicate (sizN n-1) 0
def blkB(b:Bt)(x:Rw)(k:Int)(i:Nat):List Int:=
 if(Z6 b i).part=k then Xs b (Z6 b i) (ndAt b i) (IntKind.i64.wrap (x.slack+i))
 else if(Zt b i).part=k then(if(Z6 b i).part=0 then Xs b (Zt b i) (ndAt b i) 0 else TZ b (Z6 b i) (ndAt b i))
 else []
def cat(b:Bt)(x:Rw)(k:Int)(i:Nat):List Int:=(List.range i).flatMap (blkB b x k)
theorem Yx(b:Bt)(x:Rw)(k:Int)(i:Nat):cat b x k (i+1)=cat b x k i++blkB b x k i:=by
 unfold cat;rw[Zj1,ZiL];simp
theorem ZM(b:Bt)(p:Pl)(n:Nd)(tw:Int):(Xs b p n tw).length=sizN n:=by
 simp[Xs,ZY,sizN];omega
theorem W9(b:Bt)(p:Pl)(n:Nd):(TZ b p n).length=sizN n:=by
 simp[TZ,sizN];omega
structure Placed (b:Bt) (x:Rw):Prop where
 ok:BOk b
 here:∀i,i<b.g.nodes.length->(Z6 b i=⟨0,0⟩/\∃k:Int,(k=3\/k=4)/\(Zt b i).part=k)\/(((Z6 b i).part=1\/(Z6 b i).part=2)/\(Z6 b i).at_=((cat b x (Z6 b i).part i).length:Nat))
 old:∀i,i<b.g.nodes.length->Zt b i=⟨0,0⟩\/(((Zt b i).part=3\/(Zt b i).part=4)/\(Zt b i).at_=((cat b x (Zt b i).part i).length:Nat)/\(Z6 b i).part≠2)
 zero:∀k:Int,1<=k/\k<=4->Zm b.h k=List.replicate (cat b x k b.g.nodes.length).length 0
section
variable {b d:Bt}{x:Rw}
theorem Sn(hl:Like b d)(p:Pl):refB d.h p=refB b.h p:=by
 unfold refB;rw[hl.lay]
theorem Z4c(hl:Like b d)(p:Pl)(to tw:Int):VJ d p to tw=VJ b p to tw:=by
 unfold VJ;rw[hl.here,hl.old,hl.scan,Sn hl,Sn hl]
theorem Lp(hl:Like b d)(p:Pl)(n:Nd)(tw:Int):Xs d p n tw=Xs b p n tw:=by
 unfold Xs ZY;simp only[Z4c hl]
theorem Z0J{p:Pl}{a m:Nat}{n:Nd}{tw:Int}{F:List Int}(hp:Zm d.h p.part=F++List.replicate m 0)(ha:F.length=a)(hat:p.at_.toNat=a)(hm:sizN n<=m):layL d p a n tw=F++Xs d p n tw++List.replicate (m-sizN n) 0:=by
 unfold layL;simp only;rw[hp];have e1:(F++List.replicate m (0:Int)).take a=F:=by rw[<-ha];simp
 have e2:(F++List.replicate m (0:Int)).drop (a+sizN n)=List.replicate (m-sizN n) 0:=by
  rw[<-ha,Zkv,Ziy (by omega)];simp
 rw[e1,e2];simp[Xs,hdrN,hat]
theorem Zb2{F:List Int}{a m s:Nat}{w:Int}(ha:F.length=a)(hs:1<=s)(hm:s<=m):(F++List.replicate m (0:Int)).set a w=F++(w::List.replicate (s-1) 0)++List.replicate (m-s) 0:=by
 rw[<-ha,ZkR _ _ (Zh1 _),ZiI];obtain⟨m,rfl⟩:∃m',m=m'+1:=⟨m-1,by omega⟩;rw[List.replicate_succ,List.set_cons_zero,ZhZ];congr 1;simp;omega
theorem Us(b:Bt)(x:Rw)(k:Int){i j:Nat}(h:i<=j):∃r,cat b x k j=cat b x k i++r:=by
 induction j with
 |zero=>exact⟨[],by have:i=0:=by omega
                    subst this;simp⟩
 |succ j ih=>
  by_cases hij:i=j+1
  ·subst hij;exact⟨[],by simp⟩
  ·obtain⟨r,hr⟩:=ih (by omega);exact⟨r++blkB b x k j,by rw[Yx,hr,ZhZ]⟩
def Upto(b:Bt)(x:Rw)(i:Nat)(d:Bt):Prop:=∀k:Int,1<=k/\k<=4->Zm d.h k=cat b x k i++List.replicate ((cat b x k b.g.nodes.length).length- (cat b x k i).length) 0
theorem Z6I(b:Bt)(x:Rw)(k:Int){i:Nat}(hi:i<b.g.nodes.length):(cat b x k i).length+(blkB b x k i).length<=(cat b x k b.g.nodes.length).length:=by
 obtain⟨r,hr⟩:=Us b x k (show i+1<=b.g.nodes.length by omega);rw[hr,Yx];simp
theorem Z56(hpl:Placed b x){i:Nat}(hi:i<b.g.nodes.length)(hl:Like b d)(hu:Upto b x i d):Upto b x (i+1) (Z3t x d i):=by
 have en:(d.g.nodes[i]?).getD default=ndAt b i:=by rw[hl.g];rfl
 have ep:(d.here[i]?).getD ⟨0,0⟩=Z6 b i:=by rw[hl.here];rfl
 have eo:(d.old[i]?).getD ⟨0,0⟩=Zt b i:=by rw[hl.old];rfl
 unfold Z3t;simp only[en,ep,eo];have hh:=hpl.here i hi;have ho:=hpl.old i hi;have hblk:=λk=>Z6I b x k hi;have hbk:∀k,blkB b x k i=if(Z6 b i).part=k then Xs b (Z6 b i) (ndAt b i) (IntKind.i64.wrap (x.slack+i))else if(Zt b i).part=k then(if(Z6 b i).part=0 then Xs b (Zt b i) (ndAt b i) 0 else TZ b (Z6 b i) (ndAt b i))else []:=λk=>rfl
 have l1:=ZM b (Z6 b i) (ndAt b i) (IntKind.i64.wrap (x.slack+i));have l2:=ZM b (Zt b i) (ndAt b i) 0;have l3:=W9 b (Z6 b i) (ndAt b i);have e1:=Lp hl (Z6 b i) (ndAt b i) (IntKind.i64.wrap (x.slack+i));have e2:=Lp hl (Zt b i) (ndAt b i) 0;generalize Z6 b i=p at*;generalize Zt b i=o at*;generalize ndAt b i=n at*;have hs1:1<=sizN n:=by unfold sizN;omega
 rcases hh with ⟨rfl,ko,hko,hko2⟩|⟨hp,hat⟩
 ·
  have ho2:(o.part=3\/o.part=4)/\o.at_=((cat b x o.part i).length:Nat):=by
   rcases ho with rfl|⟨h1,h2,_⟩
   ·simp at hko2;omega
   ·exact⟨h1,h2⟩
  have hA:Q3 x d i n ⟨0,0⟩=d:=by unfold Q3;rw[if_neg (by simp)]
  have hO:Q4 d n ⟨0,0⟩ o=layB d o n 0:=by unfold Q4;rw[if_pos ⟨by omega,rfl⟩]
  have hG:∀q,SO q ⟨0,0⟩ o=q:=λq=>by unfold SO;rw[if_neg (by simp)]
  rw[hA,hO,hG];intro k hk;have hbO:blkB b x o.part i=Xs b o n 0:=by rw[hbk,if_neg (by show ¬(0:Int)=o.part;omega),if_pos rfl,if_pos rfl]
  have hro:=hblk o.part;rw[hbO,l2]at hro;unfold layB;simp only;rw[Rb (by omega) hk];by_cases hko:k=o.part
  ·rw[if_pos hko,hko,Z0J (hu o.part (by omega)) (by rw[ho2.2];simp) rfl (by omega),Yx,hbO,e2];congr 2;simp[l2];omega
  ·rw[if_neg hko,Yx,hbk k,if_neg (by show ¬(0:Int)=k;omega),if_neg (λh=>hko h.symm),Zi9];exact hu k hk
 ·have hp0:¬p.part=0:=by omega
  have hA:Q3 x d i n p=layB d p n (IntKind.i64.wrap (x.slack+i)):=by unfold Q3;rw[if_pos (by omega)]
  have hO:∀q,Q4 q n p o=q:=λq=>by unfold Q4;rw[if_neg (by simp[hp0])]
  rw[hA,hO];have hbP:blkB b x p.part i=Xs b p n (IntKind.i64.wrap (x.slack+i)):=by rw[hbk,if_pos rfl]
  have hrp:=hblk p.part;rw[hbP,l1]at hrp
  have hlay:∀k:Int,1<=k/\k<=4->Zm (layB d p n (IntKind.i64.wrap (x.slack+i))).h k=if k=p.part then cat b x p.part (i+1)++List.replicate ((cat b x p.part b.g.nodes.length).length- (cat b x p.part (i+1)).length) 0 else Zm d.h k:=by
   intro k hk;unfold layB;simp only;rw[Rb (by omega) hk];by_cases hkp:k=p.part
   ·rw[if_pos hkp,if_pos hkp,Z0J (hu p.part (by omega)) (by rw[hat];simp) rfl (by omega),Yx,hbP,e1];congr 2;simp[l1];omega
   ·rw[if_neg hkp,if_neg hkp]
  have hlk:refB (layB d p n (IntKind.i64.wrap (x.slack+i))).h p=refB b.h p:=by
   unfold refB
   have:layH (layB d p n (IntKind.i64.wrap (x.slack+i))).h=layH b.h:=by
    rw[<-hl.lay];unfold layB;simp only;refine jS ?_;rw[Z0J (hu p.part (by omega)) (by rw[hat];simp) rfl (by omega),hu p.part (by omega),e1];simp[l1];omega
   rw[this]
  generalize layB d p n (IntKind.i64.wrap (x.slack+i))=q at*;rcases ho with rfl|⟨ho1,ho2,ho3⟩
  ·have hG:SO q p ⟨0,0⟩=q:=by unfold SO;rw[if_neg (by simp)]
   rw[hG];intro k hk;rw[hlay k hk];by_cases hkp:k=p.part
   ·rw[if_pos hkp,hkp]
   ·rw[if_neg hkp,Yx,hbk k,if_neg (λh=>hkp h.symm),if_neg (by show ¬(0:Int)=k;omega),Zi9];exact hu k hk
  ·have hG:SO q p o= {q with h:=Ve q.h o.part ((Zm q.h o.part).set o.at_.toNat (refB q.h p))}:=by unfold SO;rw[if_pos ⟨by omega,by omega⟩]
   rw[hG];have hbO:blkB b x o.part i=TZ b p n:=by rw[hbk,if_neg (by omega),if_pos rfl,if_neg hp0]
   have hro:=hblk o.part;rw[hbO,l3]at hro;intro k hk;simp only;rw[Rb (by omega) hk,hlay o.part (by omega),if_neg (show ¬o.part=p.part by omega),hu o.part (by omega),hlk];by_cases hko:k=o.part
   ·rw[if_pos hko,hko,Zb2 (by rw[ho2];simp) hs1 (by omega),Yx,hbO];unfold TZ;congr 2;simp;omega
   ·rw[if_neg hko,hlay k hk];by_cases hkp:k=p.part
    ·rw[if_pos hkp,hkp]
    ·rw[if_neg hkp,Yx,hbk k,if_neg (λh=>hkp h.symm),if_neg (λh=>hko h.symm),Zi9];exact hu k hk
theorem q9(hpl:Placed b x):∀i,i<=b.g.nodes.length->Upto b x i (SP x b i)
 |0,_=>by
  intro k hk;rw[SP,hpl.zero k hk];simp[cat]
 |i+1,hi=>by
  rw[SP];exact Z56 hpl (by omega) (Lr hpl.ok i (by omega)) (q9 hpl i (by omega))
theorem L7(hpl:Placed b x){k:Int}(hk:1<=k/\k<=4):Zm (ZC x b) k=cat b x k b.g.nodes.length:=by
 have h:=q9 hpl b.g.nodes.length (Zh1 _) k hk;rw[ZiI,List.replicate_zero,Zi9]at h;rw[<-h];rfl
end
end
section
def ql(x:Rw)(c:Bool)(g:Gr)(i:Nat):Pl:=if clsK x i c=0 then⟨2,(stN x c g i).n2⟩else if clsK x i c=1 then⟨1,(stN x c g i).n1⟩else⟨0,0⟩
def oldF(x:Rw)(c:Bool)(g:Gr)(i:Nat):Pl:=if(decide (0<clsK x i c)&&c)=true then(if clsF x i then⟨4,(stN x c g i).n4⟩else⟨3,(stN x c g i).n3⟩)else⟨0,0⟩
theorem Zb7{x:Rw}{c:Bool}{g:Gr}(hg:∀n∈g.nodes,sizN n<=9):∀j,j<=g.nodes.length->∀i,i<j->(stN x c g j).here[i]?=some (ql x c g i)/\(stN x c g j).old[i]?=some (oldF x c g i)
 |0,_,i,hi=>by omega
 |j+1,hj,i,hi=>by
  obtain⟨_,_,l1,l2⟩:=Un (x:=x) (cycle:=c) hg j (by omega);rw[stN];simp only[ZZ];by_cases hij:i<j
  ·have:=Zb7 (x:=x) (c:=c) hg j (by omega) i hij;rw[Zhz (by omega),Zhz (by omega)];exact this
  ·have:i=j:=by omega
   subst this;rw[Zhi (by omega),Zhi (by omega),l1,l2,ZiI];exact⟨rfl,rfl⟩
def nk(s:St8)(k:Int):Nat:=if k=1 then s.n1 else if k=2 then s.n2 else if k=3 then s.n3 else s.n4
section
variable {x:Rw}{c:Bool}
theorem sz9(x:Rw):∀n∈(mkG x.nodes x.roots).nodes,sizN n<=9:=λn hn=>by
 obtain⟨_,_,hb3⟩:=WV x.nodes x.roots;have:=hb3 n hn;unfold sizN;omega
theorem Wx(x:Rw)(c:Bool):(Zw x c).g=mkG x.nodes x.roots:=rfl
theorem SU{i:Nat}(hi:i< (mkG x.nodes x.roots).nodes.length):Z6 (Zw x c) i=ql x c (mkG x.nodes x.roots) i:=by
 unfold Z6;show((stN x c (mkG x.nodes x.roots) (mkG x.nodes x.roots).nodes.length).here[i]?).getD _=_;rw[(Zb7 (sz9 x) _ (Zh1 _) i hi).1];rfl
theorem Z2o{i:Nat}(hi:i< (mkG x.nodes x.roots).nodes.length):Zt (Zw x c) i=oldF x c (mkG x.nodes x.roots) i:=by
 unfold Zt;show((stN x c (mkG x.nodes x.roots) (mkG x.nodes x.roots).nodes.length).old[i]?).getD _=_;rw[(Zb7 (sz9 x) _ (Zh1 _) i hi).2];rfl
theorem za:∀i,i<=(mkG x.nodes x.roots).nodes.length->∀k:Int,1<=k/\k<=4->(cat (Zw x c) x k i).length=nk (stN x c (mkG x.nodes x.roots) i) k
 |0,_,k,hk=>by simp[cat,stN,nk]
 |i+1,hi,k,hk=>by
  have ih:=za i (by omega) k hk;rw[Yx,Zib,ih];have hn:ndAt (Zw x c) i=((mkG x.nodes x.roots).nodes[i]?).getD default:=rfl;unfold blkB;rw[SU (show i< (mkG x.nodes x.roots).nodes.length by omega),Z2o (show i< (mkG x.nodes x.roots).nodes.length by omega),hn,stN];generalize ((mkG x.nodes x.roots).nodes[i]?).getD default=n;have hk4:k=1\/k=2\/k=3\/k=4:=by omega
  unfold ql oldF;generalize stN x c (mkG x.nodes x.roots) i=s;rcases YZ x i c with h0|h1|⟨h2,rfl⟩
  ·rcases hk4 with rfl|rfl|rfl|rfl<;>simp[nk,ZZ,h0,ZM]
  ·cases c<;>cases hf:clsF x i<;>rcases hk4 with rfl|rfl|rfl|rfl<;>simp[nk,ZZ,h1,hf,ZM,W9]
  ·cases hf:clsF x i<;>rcases hk4 with rfl|rfl|rfl|rfl<;>simp[nk,ZZ,h2,hf,ZM,W9]
theorem RZ(hx:x.ok):Placed (Zw x c) x:=by
 refine⟨(Sy hx c).1,λi hi=> ?_,λi hi=> ?_,λk hk=> ?_⟩
 ·rw[Wx]at hi;rw[SU hi,Z2o hi];have hl:=λk hk=>za (x:=x) (c:=c) i (by omega) k hk;unfold ql oldF;rcases YZ x i c with h0|h1|⟨h2,rfl⟩
  ·right;simp[h0,hl 2,nk]
  ·right;simp[h1,hl 1,nk]
  ·left;refine⟨by simp[h2],?_⟩;cases hf:clsF x i
   ·exact⟨3,.inl rfl,by simp[h2]⟩
   ·exact⟨4,.inr rfl,by simp[h2]⟩
 ·rw[Wx]at hi;rw[SU hi,Z2o hi];have hl:=λk hk=>za (x:=x) (c:=c) i (by omega) k hk;unfold ql oldF;rcases YZ x i c with h0|h1|⟨h2,rfl⟩
  ·left;simp[h0]
  ·cases c
   ·left;simp
   ·right;cases hf:clsF x i
    ·simp[h1,hl 3,nk]
    ·simp[h1,hl 4,nk]
  ·right;cases hf:clsF x i
   ·simp[h2,hl 3,nk]
   ·simp[h2,hl 4,nk]
 ·rw[Wx,za _ (Zh1 _) k hk];have hk4:k=1\/k=2\/k=3\/k=4:=by omega
  rcases hk4 with rfl|rfl|rfl|rfl<;>rfl
end
end
section
theorem jC(h:Hp){k:Int}(hk:1<=k/\k<=4):sizL (layH h) k=(Zm h k).length:=by
 have h1:k=1\/k=2\/k=3\/k=4:=by omega
 rcases h1 with rfl|rfl|rfl|rfl<;>rfl
theorem Z7a{s p:Int}(h:Zs s p=true):unpk (Q9 s p).1=(s,p,0):=by
 have h2:=Zf.1 h;unfold Q9;rw[if_pos h];unfold unpk;have e1:2*(s+65536*p) / 2%65536=s:=by omega
 have e2:2*(s+65536*p) / 131072=p:=by omega
 simp only[e1,e2,h];rw[if_pos ⟨by omega,trivial⟩]
theorem qA(h:Hp)(p:Pl):Q7 (refB h p)=true:=by
 unfold refB Q7;split
 ·rfl
 unfold Qb;split
 ·rfl
 ·rename_i h1;unfold adr;simp only;rw[if_neg (by omega),if_neg (by omega)];simp
theorem Z3H(b:Bt)(p:Pl)(to tw:Int):Q7 (VJ b p to tw)=true:=by
 unfold VJ;split
 ·rfl
 split
 ·exact qA _ _
 split<;>exact qA _ _
theorem Rn{gone:Bool}{ptrs:Int}:∀ {l:List Int} {i:Nat},(∀(j:Nat) (w:Int),l[j]?=some w->(gone=true->w=0)/\(((i+j:Nat):Int)<ptrs->Q7 w=true))->Y2 l gone ptrs i=true
 | [],_,_=>rfl
 |w::l,i,h=>by
  obtain⟨h1,h2⟩:=h 0 w rfl
  have ih:Y2 l gone ptrs (i+1)=true:=Rn λj y hy=>by
   have:=h (j+1) y hy;rw[show i+1+j=i+(j+1)by omega];exact this
  rw[Y2,ih];cases gone
  ·by_cases hp:(i:Int)<ptrs
   ·simp[h2 (by simpa using hp)]
   ·simp[hp]
  ·rw[h1 rfl];simp[Q7]
theorem Kb{b:Bt}{p:Pl}{n:Nd}{tw:Int}{F r:List Int}{old:Bool}(hat:p.at_=(F.length:Nat))(hn:sizN n<=9):Stands (F++Xs b p n tw++r) old ⟨p.at_,(n.ptrs.length:Int)+n.data.length,n.ptrs.length,false,0⟩:=by
 have hsh:Zs ((n.ptrs.length:Int)+n.data.length) n.ptrs.length=true:=by
  unfold sizN at hn;exact Zf.2 (by omega)
 have hw:(F++Xs b p n tw++r)[F.length]?=some (hdrN n):=by
  rw[ZhZ,Zhi (Zh1 _),ZiI];rfl
 have hu:=Z7a hsh;refine⟨by show 0<=p.at_;omega,hsh,?_,?_,hdrN n,by rw[hat];simpa using hw,?_⟩
 ·have:=ZM b p n tw;unfold sizN at this;simp only[Zib,this,hat];omega
 ·simp only[hat,Zhk]
  have e:((F++Xs b p n tw++r).drop (F.length+1)).take ((n.ptrs.length:Int)+n.data.length).toNat=ZY b p p.at_.toNat n.ptrs tw++n.data:=by
   have e1:((n.ptrs.length:Int)+n.data.length).toNat=(ZY b p p.at_.toNat n.ptrs tw++n.data).length:=by simp[ZY];omega
   rw[e1,ZhZ,Zkv,Ziy (by omega),ZjJ,Zi4];have e2:(Xs b p n tw++r).drop 1=(ZY b p p.at_.toNat n.ptrs tw++n.data)++r:=rfl;rw[e2,Zkn]
  rw[e];refine Rn λj w hw=>⟨by simp,λhlt=> ?_⟩;have hlt':j<n.ptrs.length:=by simpa using hlt
  rw[Zhz (by simp[ZY];exact hlt')]at hw;simp only[ZY,Zhd,ZgW]at hw;obtain⟨q,_,rfl⟩:=hw;exact Z3H _ _ _ _
 ·simp only[Zh7,ZhE];exact⟨λ_=>Z7v (by unfold hdrN;rw[hu]),hu,trivial⟩
theorem Z1t{b:Bt}{p o:Pl}{n:Nd}{F r:List Int}(hat:o.at_=(F.length:Nat))(hn:sizN n<=9)(ha:(adr (refB b.h p)).2=0):Stands (F++TZ b p n++r) true ⟨o.at_,(n.ptrs.length:Int)+n.data.length,n.ptrs.length,true,(adr (refB b.h p)).1⟩:=by
 have hsh:Zs ((n.ptrs.length:Int)+n.data.length) n.ptrs.length=true:=by
  unfold sizN at hn;exact Zf.2 (by omega)
 have hw:(F++TZ b p n++r)[F.length]?=some (refB b.h p):=by
  rw[ZhZ,Zhi (Zh1 _),ZiI];rfl
 refine⟨by show 0<=o.at_;omega,hsh,?_,?_,_,by rw[hat];simpa using hw,?_⟩
 ·have:=W9 b p n;unfold sizN at this;simp only[Zib,this,hat];omega
 ·simp only[hat,Zhk]
  have e:((F++TZ b p n++r).drop (F.length+1)).take ((n.ptrs.length:Int)+n.data.length).toNat=List.replicate (sizN n-1) 0:=by
   have e1:((n.ptrs.length:Int)+n.data.length).toNat=(List.replicate (sizN n-1) (0:Int)).length:=by simp[sizN];omega
   rw[e1,ZhZ,Zkv,Ziy (by omega),ZjJ,Zi4];have e2:(TZ b p n++r).drop 1=List.replicate (sizN n-1) 0++r:=rfl;rw[e2,Zkn]
  rw[e];refine Rn λj w hw=> ?_;have:=(List.mem_replicate.1 (Zh2 hw)).2;subst this;exact⟨λ_=>rfl,λ_=>rfl⟩
 ·simp only[ZhC];exact⟨trivial,ha,trivial⟩
def obAt(b:Bt)(k:Int)(i:Nat):List Ob:=
 if(Z6 b i).part=k then [⟨(Z6 b i).at_,((ndAt b i).ptrs.length:Int)+(ndAt b i).data.length,(ndAt b i).ptrs.length,false,0⟩]
 else if(Zt b i).part=k then(if(Z6 b i).part=0 then [⟨(Zt b i).at_,((ndAt b i).ptrs.length:Int)+(ndAt b i).data.length,(ndAt b i).ptrs.length,false,0⟩]
  else [⟨(Zt b i).at_,((ndAt b i).ptrs.length:Int)+(ndAt b i).data.length,(ndAt b i).ptrs.length,true,(adr (refB b.h (Z6 b i))).1⟩])
 else []
def obs(b:Bt)(k:Int):List Ob:=(List.range b.g.nodes.length).flatMap (obAt b k)
section
variable {b:Bt}{x:Rw}
theorem Placed.nine(hpl:Placed b x)(h9:∀n∈b.g.nodes,sizN n<=9){i:Nat}(hi:i<b.g.nodes.length):sizN (ndAt b i)<=9:=by
 unfold ndAt;rw[ZgV hi];exact h9 _ (Zh9 hi)
theorem Placed.len(hpl:Placed b x){k:Int}(hk:1<=k/\k<=4):sizL (layH b.h) k=((cat b x k b.g.nodes.length).length:Nat):=by
 rw[jC b.h hk,hpl.zero k hk];simp
theorem Placed.here_in(hpl:Placed b x){i:Nat}(hi:i<b.g.nodes.length)(hp:(Z6 b i).part≠0):((Z6 b i).part=1\/(Z6 b i).part=2)/\(Z6 b i).at_=((cat b x (Z6 b i).part i).length:Nat)/\(Z6 b i).at_+sizN (ndAt b i)<=sizL (layH b.h) (Z6 b i).part:=by
 rcases hpl.here i hi with ⟨h,_⟩|⟨h1,h2⟩
 ·rw[h]at hp;exact absurd rfl hp
 ·refine⟨h1,h2,?_⟩;have:=Z6I b x (Z6 b i).part hi;rw[hpl.len (by omega),h2];have e:blkB b x (Z6 b i).part i=Xs b (Z6 b i) (ndAt b i) (IntKind.i64.wrap (x.slack+i)):=by unfold blkB;rw[if_pos rfl]
  rw[e,ZM]at this;omega
theorem Placed.old_in(hpl:Placed b x){i:Nat}(hi:i<b.g.nodes.length)(hp:(Zt b i).part≠0):((Zt b i).part=3\/(Zt b i).part=4)/\(Zt b i).at_=((cat b x (Zt b i).part i).length:Nat)/\(Z6 b i).part≠2/\(Zt b i).at_+sizN (ndAt b i)<=sizL (layH b.h) (Zt b i).part:=by
 rcases hpl.old i hi with h|⟨h1,h2,h3⟩
 ·rw[h]at hp;exact absurd rfl hp
 ·refine⟨h1,h2,h3,?_⟩;have:=Z6I b x (Zt b i).part hi;rw[hpl.len (by omega),h2]
  have hh:(Z6 b i).part=0\/(Z6 b i).part=1:=by
   by_cases h0:(Z6 b i).part=0
   ·exact .inl h0
   ·have:=(hpl.here_in hi h0).1;omega
  have e:(blkB b x (Zt b i).part i).length=sizN (ndAt b i):=by
   unfold blkB;rw[if_neg (by omega),if_pos rfl];split
   ·exact ZM _ _ _ _
   ·exact W9 _ _ _
  rw[e]at this;omega
theorem Placed.ref_here(hpl:Placed b x)(hr:Zl (layH b.h)=true){i:Nat}(hi:i<b.g.nodes.length)(hp:(Z6 b i).part≠0):refB b.h (Z6 b i)=refR (layH b.h) (Z6 b i).part (Z6 b i).at_:=by
 obtain⟨h1,h2,h3⟩:=hpl.here_in hi hp;have hs:1<=sizN (ndAt b i):=by unfold sizN;omega
 unfold refB;rw[if_neg hp,SE hr (by omega) ⟨by omega,by omega⟩];have:=Y0 hr (Z6 b i).part;unfold Qb refR;rw[if_neg (by omega)]
theorem Placed.ref_old(hpl:Placed b x)(hr:Zl (layH b.h)=true){i:Nat}(hi:i<b.g.nodes.length)(hp:(Zt b i).part≠0):refB b.h (Zt b i)=refR (layH b.h) (Zt b i).part (Zt b i).at_:=by
 obtain⟨h1,h2,_,h3⟩:=hpl.old_in hi hp;have hs:1<=sizN (ndAt b i):=by unfold sizN;omega
 unfold refB;rw[if_neg hp,SE hr (by omega) ⟨by omega,by omega⟩];have:=Y0 hr (Zt b i).part;unfold Qb refR;rw[if_neg (by omega)]
theorem qZ(hpl:Placed b x)(hr:Zl (layH b.h)=true)(h9:∀n∈b.g.nodes,sizN n<=9){k:Int}(hk:1<=k/\k<=4):∀(m i:Nat),i+m=b.g.nodes.length->Tiles (cat b x k b.g.nodes.length) (decide (2<k)) (cat b x k i).length ((List.range' i m).flatMap (obAt b k))
 |0,i,hi=>by
  have:i=b.g.nodes.length:=by omega
  subst this;exact Zh1 _
 |m+1,i,hi=>by
  have ih:=qZ hpl hr h9 hk m (i+1) (by omega);have hlt:i<b.g.nodes.length:=by omega
  have h9i:=hpl.nine h9 hlt;obtain⟨r,hrr⟩:=Us b x k (show i+1<=b.g.nodes.length by omega);rw[List.range'_succ,Zkq];have hs:=Yx b x k i;by_cases h1:(Z6 b i).part=k
  ·have hb:blkB b x k i=Xs b (Z6 b i) (ndAt b i) (IntKind.i64.wrap (x.slack+i)):=by unfold blkB;rw[if_pos h1]
   have ho:obAt b k i=[⟨(Z6 b i).at_,((ndAt b i).ptrs.length:Int)+(ndAt b i).data.length,(ndAt b i).ptrs.length,false,0⟩]:=by unfold obAt;rw[if_pos h1]
   obtain⟨_,q2,_⟩:=hpl.here_in hlt (by omega);rw[h1]at q2;rw[ho];refine⟨q2,?_,?_⟩
   ·rw[hrr,hs,hb];exact Kb q2 h9i
   ·rw[hs,hb,Zib,ZM]at ih;have:(((ndAt b i).ptrs.length:Int)+(ndAt b i).data.length).toNat=sizN (ndAt b i) -1:=by unfold sizN;omega
    simp only[this];rw[show(cat b x k i).length+1+(sizN (ndAt b i) -1)=(cat b x k i).length+sizN (ndAt b i)by unfold sizN;omega];exact ih
  by_cases h2:(Zt b i).part=k
  ·obtain⟨q1,q2,q3,q4⟩:=hpl.old_in hlt (by omega);have hk3:2<k:=by omega
   rw[h2]at q2
   have hlen:(cat b x k (i+1)).length=(cat b x k i).length+1+(((ndAt b i).ptrs.length:Int)+(ndAt b i).data.length).toNat:=by
    have e:(blkB b x k i).length=sizN (ndAt b i):=by
     unfold blkB;rw[if_neg h1,if_pos h2];split
     ·exact ZM _ _ _ _
     ·exact W9 _ _ _
    rw[hs,Zib,e];unfold sizN;omega
   rw[hlen]at ih;by_cases h3:(Z6 b i).part=0
   ·have hb:blkB b x k i=Xs b (Zt b i) (ndAt b i) 0:=by unfold blkB;rw[if_neg h1,if_pos h2,if_pos h3]
    have ho:obAt b k i=[⟨(Zt b i).at_,((ndAt b i).ptrs.length:Int)+(ndAt b i).data.length,(ndAt b i).ptrs.length,false,0⟩]:=by unfold obAt;rw[if_neg h1,if_pos h2,if_pos h3]
    rw[ho];refine⟨q2,?_,ih⟩;rw[hrr,hs,hb];exact Kb q2 h9i
   ·have hb:blkB b x k i=TZ b (Z6 b i) (ndAt b i):=by unfold blkB;rw[if_neg h1,if_pos h2,if_neg h3]
    have ho:obAt b k i=[⟨(Zt b i).at_,((ndAt b i).ptrs.length:Int)+(ndAt b i).data.length,(ndAt b i).ptrs.length,true,(adr (refB b.h (Z6 b i))).1⟩]:=by unfold obAt;rw[if_neg h1,if_pos h2,if_neg h3]
    rw[ho];refine⟨q2,?_,ih⟩;rw[hrr,hs,hb,decide_eq_true hk3];refine Z1t q2 h9i ?_;obtain⟨u1,u2,_⟩:=hpl.here_in hlt h3;rw[hpl.ref_here hr hlt h3,WC hr (by omega)]
  ·have hb:blkB b x k i=[]:=by unfold blkB;rw[if_neg h1,if_neg h2]
   have ho:obAt b k i=[]:=by unfold obAt;rw[if_neg h1,if_neg h2]
   rw[ho,Zi4];rw[hs,hb,Zi9]at ih;exact ih
theorem Z8h(hpl:Placed b x)(hr:Zl (layH b.h)=true)(h9:∀n∈b.g.nodes,sizN n<=9){k:Int}(hk:1<=k/\k<=4):Tiles (Zm (ZC x b) k) (decide (2<k)) 0 (obs b k):=by
 rw[L7 hpl hk];have:=qZ hpl hr h9 hk b.g.nodes.length 0 (by omega);unfold obs;rw[List.range_eq_range'];exact this
theorem U4{k:Int}{o:Ob}:o∈obs b k↔ ∃i,i<b.g.nodes.length/\o∈obAt b k i:=by
 unfold obs;simp[Ziw]
end
end
section
structure Made (b:Bt) (x:Rw):Prop where
 pl:Placed b x
 lay:Zl (layH b.h)=true
 nine:∀n∈b.g.nodes,sizN n<=9
 cyc:b.h.cycle=true->∀i,i<b.g.nodes.length->(Z6 b i).part=1->(Zt b i).part≠0
 scan:0<=b.h.scan/\b.h.scan<=b.h.low.length/\(if b.h.cycle then b.h.scan<b.h.low.length else b.h.scan=b.h.low.length/\b.h.old=[]/\b.h.far=[])
 room:(b.h.low.length:Int)+b.h.high.length+((wtL (obs b 3)+wtL (obs b 4):Nat):Int)<=b.h.cap
 fit:Fit b.h.scan
def ptsB(b:Bt):Pts:=⟨obs b 1,obs b 2,obs b 3,obs b 4⟩
theorem Tu(b:Bt){k:Int}(hk:1<=k/\k<=4):(ptsB b).at k=obs b k:=by
 have h1:k=1\/k=2\/k=3\/k=4:=by omega
 rcases h1 with rfl|rfl|rfl|rfl<;>rfl
section
variable {b:Bt}{x:Rw}
theorem Made.fill(m:Made b x):(ZC x b).ok/\layH (ZC x b)=layH b.h/\(ZC x b).scan=b.h.scan/\(ZC x b).cycle=b.h.cycle:=Z21 m.pl.ok m.fit
theorem Made.tiles(m:Made b x){k:Int}(hk:1<=k/\k<=4):Tiles (Zm (ZC x b) k) (decide (2<k)) 0 (obs b k):=Z8h m.pl m.lay m.nine hk
theorem Made.start(m:Made b x){k a:Int}(hk:1<=k/\k<=4)(ha:0<=a/\a<sizL (layH b.h) k):ZS (ZC x b) k a=fstL (layH b.h) k+a:=by
 unfold ZS;rw[m.fill.2.1,SE m.lay hk ha]
theorem VF(n:Nd):1<=sizN n:=by unfold sizN;omega
theorem Made.ob_here(m:Made b x){i:Nat}(hi:i<b.g.nodes.length)(hp:(Z6 b i).part≠0):∃o∈obs b (Z6 b i).part,o.at_=(Z6 b i).at_/\o.size=((ndAt b i).ptrs.length:Int)+(ndAt b i).data.length/\o.ptrs=(ndAt b i).ptrs.length/\o.gone=false:=
 ⟨_,U4.2 ⟨i,hi,by unfold obAt;rw[if_pos rfl];exact .head _⟩,rfl,rfl,rfl,rfl⟩
theorem Made.ob_old(m:Made b x){i:Nat}(hi:i<b.g.nodes.length)(hp:(Zt b i).part≠0):∃o∈obs b (Zt b i).part,o.at_=(Zt b i).at_:=by
 obtain⟨h1,h2,h3,h4⟩:=m.pl.old_in hi hp
 have hne:¬(Z6 b i).part=(Zt b i).part:=by
  by_cases h0:(Z6 b i).part=0
  ·omega
  ·have:=(m.pl.here_in hi h0).1;omega
 by_cases h0:(Z6 b i).part=0
 ·exact⟨_,U4.2 ⟨i,hi,by unfold obAt;rw[if_neg hne,if_pos rfl,if_pos h0];exact .head _⟩,rfl⟩
 ·exact⟨_,U4.2 ⟨i,hi,by unfold obAt;rw[if_neg hne,if_pos rfl,if_neg h0];exact .head _⟩,rfl⟩
theorem Made.to_here(m:Made b x){i:Nat}(hi:i<b.g.nodes.length):Xr (ZC x b) (ptsB b) (refB b.h (Z6 b i)) 1 2=true:=by
 by_cases h0:(Z6 b i).part=0
 ·have:refB b.h (Z6 b i)=0:=by unfold refB;rw[if_pos h0]
  rw[this];simp[Xr]
 ·obtain⟨h1,h2,h3⟩:=m.pl.here_in hi h0;have hs:=VF (ndAt b i);obtain⟨o,ho,ha,_⟩:=m.ob_here hi h0;rw[m.pl.ref_here m.lay hi h0];unfold Xr;rw[WC m.lay (by omega)]
  have:(atR (ZC x b) (Z6 b i).part (obs b (Z6 b i).part) (fstL (layH b.h) (Z6 b i).part+(Z6 b i).at_)).isSome=true:=by
   refine SF.2 ⟨o,ho,?_⟩;rw[ha,m.start (by omega) ⟨by omega,by omega⟩]
  rcases h1 with h|h
  ·rw[h]at this;rw[h];simp only[Tu b (show 1<=(1:Int)/\(1:Int)<=4 by omega),this];simp
  ·rw[h]at this;rw[h];simp only[Tu b (show 1<=(2:Int)/\(2:Int)<=4 by omega),this];simp
theorem Made.to_old(m:Made b x){i:Nat}(hi:i<b.g.nodes.length):Xr (ZC x b) (ptsB b) (refB b.h (Zt b i)) 3 4=true:=by
 by_cases h0:(Zt b i).part=0
 ·have:refB b.h (Zt b i)=0:=by unfold refB;rw[if_pos h0]
  rw[this];simp[Xr]
 ·obtain⟨h1,h2,_,h3⟩:=m.pl.old_in hi h0;have hs:=VF (ndAt b i);obtain⟨o,ho,ha⟩:=m.ob_old hi h0;rw[m.pl.ref_old m.lay hi h0];unfold Xr;rw[WC m.lay (by omega)]
  have:(atR (ZC x b) (Zt b i).part (obs b (Zt b i).part) (fstL (layH b.h) (Zt b i).part+(Zt b i).at_)).isSome=true:=by
   refine SF.2 ⟨o,ho,?_⟩;rw[ha,m.start (by omega) ⟨by omega,by omega⟩]
  rcases h1 with h|h
  ·rw[h]at this;rw[h];simp only[Tu b (show 1<=(3:Int)/\(3:Int)<=4 by omega),this];simp
  ·rw[h]at this;rw[h];simp only[Tu b (show 1<=(4:Int)/\(4:Int)<=4 by omega),this];simp
theorem Made.same_at(m:Made b x){k:Int}(hk:1<=k/\k<=4){o q:Ob}(ho:o∈obs b k)(hq:q∈obs b k)(h:q.at_=o.at_):q=o:=by
 have ht:=m.tiles hk;rcases ht.apart q hq o ho with h1|h1|h1
 ·exact h1
 ·have:=Zf.1 (ht.stands q hq).1.shape;omega
 ·have:=Zf.1 (ht.stands o ho).1.shape;omega
theorem Made.ob_in(m:Made b x){k:Int}(hk:1<=k/\k<=4){o:Ob}(ho:o∈obs b k):0<=o.at_/\o.at_<sizL (layH b.h) k:=by
 have hs:=((m.tiles hk).stands o ho).1;have h1:=Zf.1 hs.shape;have h2:=hs.fits;have h3:=hs.nat;have:sizL (layH b.h) k=(Zm (ZC x b) k).length:=by rw[<-m.fill.2.1,jC _ hk]
 omega
theorem Made.find(m:Made b x){k:Int}(hk:1<=k/\k<=4){o:Ob}(ho:o∈obs b k):atR (ZC x b) k (obs b k) (fstL (layH b.h) k+o.at_)=some o:=by
 rw[<-m.start hk (m.ob_in hk ho)];refine Z97 ho λq hq e=>m.same_at hk ho hq ?_;rw[m.start hk (m.ob_in hk ho),m.start hk (m.ob_in hk hq)]at e;omega
theorem zG{k:Int}{i:Nat}{o:Ob}(h:o∈obAt b k i)(hg:o.gone=true):¬(Z6 b i).part=k/\(Zt b i).part=k/\¬(Z6 b i).part=0/\o=⟨(Zt b i).at_,((ndAt b i).ptrs.length:Int)+(ndAt b i).data.length,(ndAt b i).ptrs.length,true,(adr (refB b.h (Z6 b i))).1⟩:=by
 unfold obAt at h;split at h
 ·simp at h;subst h;simp at hg
 rename_i h1;split at h
 ·rename_i h2;split at h
  ·simp at h;subst h;simp at hg
  ·rename_i h3;simp at h;exact⟨h1,h2,h3,h⟩
 ·simp at h
theorem Made.gone(m:Made b x){k:Int}(hk:3<=k/\k<=4):KO (ZC x b) (obs b 1) (obs b k):=by
 intro o ho hg;obtain⟨i,hi,hoi⟩:=U4.1 ho;obtain⟨h1,h2,h3,rfl⟩:=zG hoi hg;obtain⟨u1,u2,u3⟩:=m.pl.here_in hi h3;have hn2:=(m.pl.old_in hi (by omega)).2.2.1;have hp1:(Z6 b i).part=1:=by omega
 obtain⟨q,hq,q1,q2,q3,_⟩:=m.ob_here hi h3;rw[hp1]at hq;refine⟨q,?_,q2,q3⟩;simp only;rw[m.pl.ref_here m.lay hi h3,WC m.lay (by omega),hp1,<-q1];exact m.find (by omega) hq
theorem Made.parts(m:Made b x):Yk (ZC x b)=some (ptsB b):=
 Z2t (m.tiles (k:=1) (by omega)) (m.tiles (k:=2) (by omega)) (m.tiles (k:=3) (by omega)) (m.tiles (k:=4) (by omega)) (m.gone (by omega)) (m.gone (by omega))
theorem LJ(l r:List Ob)(a:Int):tgL (l++r) a=tgL l a+tgL r a:=by simp[tgL]
theorem Ze2(b:Bt)(k:Int)(j:Nat)(a:Int):tgL (obAt b k j) a=if ¬(Z6 b j).part=k/\(Zt b j).part=k/\¬(Z6 b j).part=0/\(adr (refB b.h (Z6 b j))).1=a then 1 else 0:=by
 unfold obAt;by_cases h1:(Z6 b j).part=k
 ·rw[if_pos h1,if_neg (λh=>h.1 h1)];simp[tgL]
 rw[if_neg h1];by_cases h2:(Zt b j).part=k
 ·rw[if_pos h2];by_cases h3:(Z6 b j).part=0
  ·rw[if_pos h3,if_neg (λh=>h.2.2.1 h3)];simp[tgL]
  ·rw[if_neg h3];by_cases h4:(adr (refB b.h (Z6 b j))).1=a
   ·rw[if_pos ⟨h1,h2,h3,h4⟩];simp[tgL,h4]
   ·rw[if_neg (λh=>h4 h.2.2.2)];simp[tgL,h4]
 ·rw[if_neg h2,if_neg (λh=>h2 h.2.1)];simp[tgL]
theorem Made.once(m:Made b x)(hc:b.h.cycle=true){i:Nat}(hi:i<b.g.nodes.length)(hp:(Z6 b i).part=1):Z77 (ptsB b) (fstL (layH b.h) 1+(Z6 b i).at_)=1:=by
 have key:∀j,j<=b.g.nodes.length->tgL ((List.range j).flatMap (obAt b 3)) (fstL (layH b.h) 1+(Z6 b i).at_)+tgL ((List.range j).flatMap (obAt b 4)) (fstL (layH b.h) 1+(Z6 b i).at_)=if i<j then 1 else 0:=by
  intro j
  induction j with
  |zero=>intro _;simp[tgL]
  |succ j ih=>
   intro hj;have ih:=ih (by omega);have hjl:j<b.g.nodes.length:=by omega
   rw[Zj1,ZiL,ZiL,LJ,LJ];simp only[Zkq,List.flatMap_nil,Zi9]
   have hone:tgL (obAt b 3 j) (fstL (layH b.h) 1+(Z6 b i).at_)+tgL (obAt b 4 j) (fstL (layH b.h) 1+(Z6 b i).at_)=if j=i then 1 else 0:=by
    rw[Ze2,Ze2];by_cases h0:(Z6 b j).part=0
    ·have:¬j=i:=λe=>by subst e;omega
     rw[if_neg this,if_neg (λh=>h.2.2.1 h0),if_neg (λh=>h.2.2.1 h0)]
    obtain⟨u1,u2,u3⟩:=m.pl.here_in hjl h0;by_cases hj1:(Z6 b j).part=1
    ·have ho:=m.cyc hc j hjl hj1;obtain⟨v1,_⟩:=m.pl.old_in hjl ho;have htg:(adr (refB b.h (Z6 b j))).1=fstL (layH b.h) 1+(Z6 b j).at_:=by rw[m.pl.ref_here m.lay hjl h0,WC m.lay (by omega),hj1]
     have heq:(fstL (layH b.h) 1+(Z6 b j).at_=fstL (layH b.h) 1+(Z6 b i).at_)↔j=i:=by
      constructor
      ·intro e;obtain⟨w1,w2,w3⟩:=m.pl.here_in hi (by omega);rw[hj1]at u2;rw[hp]at w2;have hs1:=VF (ndAt b i);have hs2:=VF (ndAt b j);have bi:(blkB b x 1 i).length=sizN (ndAt b i):=by unfold blkB;rw[if_pos hp];exact ZM _ _ _ _
       have bj:(blkB b x 1 j).length=sizN (ndAt b j):=by unfold blkB;rw[if_pos hj1];exact ZM _ _ _ _
       by_cases hlt:j<i
       ·obtain⟨r,hr⟩:=Us b x 1 (show j+1<=i by omega);rw[Yx]at hr;have:=Zi5 List.length hr;simp[bj]at this;omega
       ·by_cases hgt:i<j
        ·obtain⟨r,hr⟩:=Us b x 1 (show i+1<=j by omega);rw[Yx]at hr;have:=Zi5 List.length hr;simp[bi]at this;omega
        ·omega
      ·rintro rfl;rfl
     rw[htg];rcases v1 with v|v
     ·rw[if_neg (show ¬(¬(Z6 b j).part=4/\(Zt b j).part=4/\_)fromλh=>by have:=h.2.1;omega)];by_cases hji:j=i
      ·rw[if_pos hji,if_pos ⟨by omega,v,h0,heq.2 hji⟩]
      ·rw[if_neg hji,if_neg (λh=>hji (heq.1 h.2.2.2))]
     ·rw[if_neg (show ¬(¬(Z6 b j).part=3/\(Zt b j).part=3/\_)fromλh=>by have:=h.2.1;omega)];by_cases hji:j=i
      ·rw[if_pos hji,if_pos ⟨by omega,v,h0,heq.2 hji⟩]
      ·rw[if_neg hji,if_neg (λh=>hji (heq.1 h.2.2.2))]
    ·have hp2:(Z6 b j).part=2:=by omega
     have hold:(Zt b j).part=0:=by
      by_cases h:(Zt b j).part=0
      ·exact h
      ·exact absurd hp2 (m.pl.old_in hjl h).2.2.1
     have:¬j=i:=λe=>by subst e;omega
     rw[if_neg this,if_neg (λh=>by have:=h.2.1;omega),if_neg (λh=>by have:=h.2.1;omega)]
   by_cases hji:j=i
   ·subst hji;rw[if_pos rfl]at hone;rw[if_neg (Nat.lt_irrefl _)]at ih;rw[if_pos (Zj9 _)];omega
   ·rw[if_neg hji]at hone;by_cases hij:i<j
    ·rw[if_pos hij]at ih;rw[if_pos (show i<j+1 by omega)];omega
    ·rw[if_neg hij]at ih;rw[if_neg (show ¬i<j+1 by omega)];omega
 have:=key b.g.nodes.length (Zh1 _);rw[if_pos hi]at this;exact this
end
end
section
section
variable {b:Bt}{x:Rw}
theorem Made.word(m:Made b x){k:Int}(hk:1<=k/\k<=4){i t:Nat}(hi:i<b.g.nodes.length)(ht:t< (blkB b x k i).length):(Zm (ZC x b) k)[(cat b x k i).length+t]?=(blkB b x k i)[t]? :=by
 rw[L7 m.pl hk];obtain⟨r,hr⟩:=Us b x k (show i+1<=b.g.nodes.length by omega);rw[hr,Yx,ZhZ,Zhi (by omega),ZjJ,Zhz ht]
theorem Lq{p:Pl}{n:Nd}{tw:Int}{j:Nat}(hj:j<n.ptrs.length):∃q∈n.ptrs,(Xs b p n tw)[1+j]?=some (VJ b ⟨p.part,((p.at_.toNat+1+j:Nat):Int)⟩ q (IntKind.i64.wrap (tw+j))):=by
 refine⟨n.ptrs[j],Zh9 hj,?_⟩;unfold Xs;rw[ZjB 1 j,Zj6,Zhz (by simp[ZY];exact hj)];simp[ZY,hj]
theorem Jg(h:Hp)(p:Pts)(k j:Int):Xr h p 0 k j=true:=by simp[Xr]
theorem Made.ptr_ok(m:Made b x)(hp:∀n∈b.g.nodes,∀q∈n.ptrs,-1<=q/\q< (b.g.nodes.length:Int)){i:Nat}(hi:i<b.g.nodes.length){k:Int}{p:Pl}(hk:p.part=k){a:Nat}{tq_ tw:Int}(hto:tq_∈(ndAt b i).ptrs)(hw:((Zm (ZC x b) k)[a]?).getD 0=VJ b ⟨p.part,(a:Int)⟩ tq_ tw):Rf (ZC x b) (ptsB b) k a=true:=by
 have hb:=hp (ndAt b i) (by unfold ndAt;rw[ZgV hi];exact Zh9 hi) tq_ hto;unfold Rf;simp only[hw];unfold VJ;rw[hk];by_cases h0:tq_<0
 ·rw[if_pos h0];simp[Jg]
 obtain⟨t,rfl⟩:=Zhf (show 0<=tq_ by omega);have ht:t<b.g.nodes.length:=by omega
 rw[if_neg h0];have g1:=m.to_here (i:=t) ht;have g2:=m.to_old (i:=t) ht;unfold Z6 at g1;unfold Zt at g2;simp only[Zhk];by_cases h2:2<k
 ·rw[if_pos h2,if_pos h2];exact g2
 rw[if_neg h2,if_neg h2];rw[m.fill.2.2.1];by_cases h3:k=1/\b.h.scan<=(a:Int)
 ·rw[if_pos h3];split
  ·rw[g2];simp
  ·rw[g1];simp
 ·rw[if_neg h3,if_neg (λh=>h3 ⟨h.1,h.2.1⟩)];exact g1
theorem Made.ptrs(m:Made b x)(hp:∀n∈b.g.nodes,∀q∈n.ptrs,-1<=q/\q< (b.g.nodes.length:Int)){k:Int}(hk:1<=k/\k<=4):WZ (ZC x b) (ptsB b) k=true:=by
 unfold WZ;rw[Tu b hk,Zh5];intro o ho;obtain⟨i,hi,hoi⟩:=U4.1 ho;unfold Z2l;rw[Zh5];intro j hj;rw[Zir]at hj;unfold obAt at hoi;split at hoi
 ·rename_i h1;simp at hoi;subst hoi;simp only[Zhk]at hj;obtain⟨_,q2,_⟩:=m.pl.here_in hi (by omega);rw[h1]at q2;have hb:blkB b x k i=Xs b (Z6 b i) (ndAt b i) (IntKind.i64.wrap (x.slack+i)):=by unfold blkB;rw[if_pos h1]
  obtain⟨q,hq,hs⟩:=Lq (b:=b) (p:=Z6 b i) (tw:=IntKind.i64.wrap (x.slack+i)) hj;have hw:=m.word hk hi (t:=1+j) (by rw[hb,ZM];unfold sizN;omega);rw[hb,hs]at hw;simp only;refine m.ptr_ok hp hi h1 (tw:=IntKind.i64.wrap (IntKind.i64.wrap (x.slack+i)+j)) hq ?_;rw[q2]at hw⊢;simp only[Zhk]at hw⊢;rw[<-Zis]at hw;rw[hw];rfl
 rename_i h1;split at hoi
 ·rename_i h2;obtain⟨_,q2,_⟩:=m.pl.old_in hi (by omega);rw[h2]at q2;split at hoi
  ·rename_i h3;simp at hoi;subst hoi;simp only[Zhk]at hj;have hb:blkB b x k i=Xs b (Zt b i) (ndAt b i) 0:=by unfold blkB;rw[if_neg h1,if_pos h2,if_pos h3]
   obtain⟨q,hq,hs⟩:=Lq (b:=b) (p:=Zt b i) (tw:=0) hj;have hw:=m.word hk hi (t:=1+j) (by rw[hb,ZM];unfold sizN;omega);rw[hb,hs]at hw;simp only;refine m.ptr_ok hp hi h2 (tw:=IntKind.i64.wrap (0+j)) hq ?_;rw[q2]at hw⊢;simp only[Zhk]at hw⊢;rw[<-Zis]at hw;rw[hw];rfl
  ·rename_i h3;simp at hoi;subst hoi;simp only[Zhk]at hj;have hb:blkB b x k i=TZ b (Z6 b i) (ndAt b i):=by unfold blkB;rw[if_neg h1,if_pos h2,if_neg h3]
   have hw:=m.word hk hi (t:=1+j) (by rw[hb,W9];unfold sizN;omega)
   have hz:(TZ b (Z6 b i) (ndAt b i))[1+j]?=some 0:=by
    unfold TZ;rw[ZjB 1 j,Zj6,List.getElem?_replicate,if_pos (by unfold sizN;omega)]
   rw[hb,hz]at hw;unfold Rf;simp only;rw[q2,Zhk,show(cat b x k i).length+1+j=(cat b x k i).length+(1+j)by omega,hw];simp[Jg]
 ·simp at hoi
theorem Made.right(m:Made b x)(hp:∀n∈b.g.nodes,∀q∈n.ptrs,-1<=q/\q< (b.g.nodes.length:Int)):YA (ZC x b)=true:=by
 have hl:=m.fill.2.1;have hlow:(ZC x b).low.length=b.h.low.length:=by have:=Zi5 Ly.low hl;simp only[layH]at this;omega
 have hhigh:(ZC x b).high.length=b.h.high.length:=by have:=Zi5 Ly.high hl;simp only[layH]at this;omega
 have hold:(ZC x b).old.length=b.h.old.length:=by have:=Zi5 Ly.old hl;simp only[layH]at this;omega
 have hfar:(ZC x b).far.length=b.h.far.length:=by have:=Zi5 Ly.far hl;simp only[layH]at this;omega
 have hcap:(ZC x b).cap=b.h.cap:=Zi5 Ly.cap hl;refine Z2C ?_ m.parts ?_
 ·unfold numR;have hs:=m.scan;have hrl:=m.pl.ok.rl;have hro:(ZC x b).roots.length<=5:=by simp only[ZC,ZhG];exact hrl
  rw[hl,m.lay,m.fill.2.2.1,m.fill.2.2.2,hlow,hold,hfar];obtain⟨s1,s2,s3⟩:=hs;cases hc:b.h.cycle
  ·rw[hc]at s3;simp only[Zh7,ZhE]at s3;simp[s1,s2,s3];omega
  ·rw[hc]at s3;simp only[ZhC]at s3;simp[s1,s2,s3];omega
 ·unfold Sp;simp only[ZgY,Zhc];refine⟨⟨⟨⟨⟨⟨?_,?_⟩,m.ptrs hp (by omega)⟩,m.ptrs hp (by omega)⟩,m.ptrs hp (by omega)⟩,m.ptrs hp (by omega)⟩,?_⟩
  ·rw[m.fill.2.2.2];cases hc:b.h.cycle
   ·rfl
   ·simp only[ZjD,Zjn,Zh5];intro o ho;obtain⟨i,hi,hoi⟩:=U4.1 ho
    have h1:(Z6 b i).part=1/\o.at_=(Z6 b i).at_:=by
     unfold obAt at hoi;split at hoi
     ·rename_i h1;simp at hoi;subst hoi;exact⟨h1,rfl⟩
     split at hoi
     ·rename_i h2;have:=(m.pl.old_in hi (by omega)).1;omega
     ·simp at hoi
    have hin:=m.ob_in (k:=1) (by omega) ho;unfold tgOk;rw[m.start (by omega) hin,h1.2,Zhc];exact m.once hc hi h1.1
  ·rw[Zh5];intro w hw;simp only[ZC,Zh8]at hw;obtain⟨r,hr,rfl⟩:=hw;have hrl:=m.pl.ok.rts r hr;by_cases h0:0<=r
   ·rw[if_pos h0];have hlk:=Lr (x:=x) m.pl.ok b.g.nodes.length (Zh1 _);rw[Sn hlk];obtain⟨t,rfl⟩:=Zhf h0;exact m.to_here (i:=t) (by omega)
   ·rw[if_neg h0];exact Jg _ _ _ _
  ·rw[hlow,hhigh,hcap];exact m.room
end
end
section
theorem LM(l r:List Ob):wtL (l++r)=wtL l+wtL r:=by simp[wtL]
section
variable {x:Rw}{c:Bool}
theorem Zed{b:Bt}(hpl:Placed b x){i:Nat}(hi:i<b.g.nodes.length):wtL (obAt b 3 i)+wtL (obAt b 4 i)=if(Z6 b i).part=0 then sizN (ndAt b i)else 0:=by
 have hz:((1:Nat)+(((ndAt b i).ptrs.length:Int)+(ndAt b i).data.length).toNat)=sizN (ndAt b i):=by unfold sizN;omega
 rcases hpl.here i hi with ⟨h1,k,hk,hok⟩|⟨h1,_⟩
 ·have h0:(Z6 b i).part=0:=by rw[h1]
  rw[if_pos h0];rcases hk with rfl|rfl<;>simp[obAt,h0,hok,wtL,wtO,hz]
 ·have e0:¬(Z6 b i).part=0:=by omega
  have e3:¬(Z6 b i).part=3:=by omega
  have e4:¬(Z6 b i).part=4:=by omega
  have:∀k:Int,¬(Z6 b i).part=k->wtL (obAt b k i)=0:=λk hk=>by
   unfold obAt;rw[if_neg hk,if_neg e0];split<;>simp[wtL,wtO]
  rw[if_neg e0,this 3 e3,this 4 e4]
theorem Z7m(hx:x.ok):∀j,j<=(mkG x.nodes x.roots).nodes.length->wtL ((List.range j).flatMap (obAt (Zw x c) 3))+wtL ((List.range j).flatMap (obAt (Zw x c) 4))=(stN x c (mkG x.nodes x.roots) j).wt
 |0,_=>rfl
 |j+1,hj=>by
  have ih:=Z7m hx j (by omega);have h1:=Zed (RZ (c:=c) hx) (i:=j) (by rw[Wx];omega);rw[SU (by omega)]at h1;have hn:ndAt (Zw x c) j=((mkG x.nodes x.roots).nodes[j]?).getD default:=rfl;rw[hn]at h1;rw[Zj1,ZiL,ZiL,LM,LM,stN];simp only[Zkq,List.flatMap_nil,Zi9];generalize ((mkG x.nodes x.roots).nodes[j]?).getD default=n at*;unfold ql at h1;simp only[ZZ];rcases YZ x j c with h0|h0|⟨h0,rfl⟩
  ·simp[h0]at h1⊢;omega
  ·simp[h0]at h1⊢;omega
  ·simp[h0]at h1⊢;omega
theorem Z88(x:Rw)(c:Bool):∀n∈(Zw x c).g.nodes,∀q∈n.ptrs,-1<=q/\q< ((Zw x c).g.nodes.length:Int):=by
 rw[Wx];exact Z61 x.nodes x.roots
theorem Zd7(hc:c=false):∀j,(stN x c (mkG x.nodes x.roots) j).n3=0/\(stN x c (mkG x.nodes x.roots) j).n4=0
 |0=>⟨rfl,rfl⟩
 |j+1=>by
  have:=Zd7 hc j;subst hc;simpa[stN,ZZ]using this
theorem made(hx:x.ok)(hc:c=true->(Zw x true).h.low.length≠0):Made (Zw x c) x:=by
 obtain⟨k1,k2,k3⟩:=Sy hx c;refine⟨RZ hx,k3,?_,?_,?_,?_,k2⟩
 ·rw[Wx];exact sz9 x
 ·intro hcy i hi h1;have hct:c=true:=hcy;subst hct;rw[Wx]at hi;rw[SU hi]at h1;rw[Z2o hi];unfold ql at h1;unfold oldF;rcases YZ x i true with h0|h0|⟨h0,_⟩
  ·simp[h0]at h1
  ·simp[h0];cases clsF x i<;>simp
  ·simp[h0]at h1
 ·have hlow:(Zw x c).h.low.length=(stN x c (mkG x.nodes x.roots) (mkG x.nodes x.roots).nodes.length).n1:=by simp[Zw]
  cases c
  ·obtain⟨e3,e4⟩:=Zd7 (x:=x) (c:=false) rfl (mkG x.nodes x.roots).nodes.length;rw[hlow];have hs:(Zw x false).h.scan=((stN x false (mkG x.nodes x.roots) (mkG x.nodes x.roots).nodes.length).n1:Int):=by simp[Zw]
   have hcy:(Zw x false).h.cycle=false:=rfl;rw[hs,hcy];simp only[Zh7,ZhE];refine⟨by omega,by omega,trivial,?_,?_⟩<;>simp[Zw,e3,e4]
  ·have h0:=hc rfl;rw[hlow]at h0;rw[hlow]
   have hs:(Zw x true).h.scan=pick x.scan (stN x true (mkG x.nodes x.roots) (mkG x.nodes x.roots).nodes.length).n1:=by
    simp only[Zw];rw[if_pos ⟨trivial,by omega⟩]
   have hcy:(Zw x true).h.cycle=true:=rfl;have hp:=Xv (c:=x.scan) (n:=((stN x true (mkG x.nodes x.roots) (mkG x.nodes x.roots).nodes.length).n1:Int)) (by omega);rw[hs,hcy];simp only[ZhC];omega
 ·have hw:=Z7m (c:=c) hx (mkG x.nodes x.roots).nodes.length (Zh1 _);have hl:(Zw x c).h.low.length=(stN x c (mkG x.nodes x.roots) (mkG x.nodes x.roots).nodes.length).n1:=by simp[Zw]
  have hh:(Zw x c).h.high.length=(stN x c (mkG x.nodes x.roots) (mkG x.nodes x.roots).nodes.length).n2:=by simp[Zw]
  have hcap:(Zw x c).h.cap=max (((stN x c (mkG x.nodes x.roots) (mkG x.nodes x.roots).nodes.length).n1:Int)+(stN x c (mkG x.nodes x.roots) (mkG x.nodes x.roots).nodes.length).n2+(stN x c (mkG x.nodes x.roots) (mkG x.nodes x.roots).nodes.length).wt) (((stN x c (mkG x.nodes x.roots) (mkG x.nodes x.roots).nodes.length).n3:Int)+(stN x c (mkG x.nodes x.roots) (mkG x.nodes x.roots).nodes.length).n4)+pick x.slack 12:=rfl;have hp:=Xv (c:=x.slack) (n:=12) (by omega);unfold obs;rw[Wx,hw,hl,hh,hcap];omega
theorem Z3u(hx:x.ok):∃c,S4 x=ZC x (Zw x c)/\Made (Zw x c) x:=by
 unfold S4;by_cases h:(Zw x true).h.low.length=0
 ·rw[if_pos h];exact⟨false,rfl,made hx (by simp)⟩
 ·rw[if_neg h];exact⟨true,rfl,made hx λ_=>h⟩
theorem Z0r(hx:x.ok):YA (S4 x)=true:=by
 obtain⟨c,h,m⟩:=Z3u hx;rw[h];exact m.right (Z88 x c)
end
end
section
theorem Z69(l:List Nd):NoM (.sl (l.map ndV)):=by
 have h:=Se ⟨l,[]⟩;unfold grV at h;cases h with
 |agg _ h=>exact h _ (by simp)
theorem Zda(x:Rw):NoM (rwV x):=.agg _ λc hc=>by
 simp only[Zhe,Zij,ZjL]at hc;rcases hc with rfl|rfl|rfl|rfl|rfl|rfl|rfl
 all_goals first|exact .int _ _|exact Z69 _|exact Zd9 _
theorem Z7r{x:Rw}(hx:x.ok):VC (bes Try.prog) 16 false [rwV x] (hpV (S4 x)):=up (Z9M hx) (nom1 (Zda x)) (Z68 _)
section
variable {h:Hp}{p:Pts}
theorem Rt.vg_right(r:Rt h p):Vm.right (vg h)=true:=r.view_right r.nroots r.roots
theorem Rt.ofG(r:Rt h p):ofG h=(Yn (vg h),0):=if_pos ⟨r.right,r.vg_right⟩
end
instance fitViewLive:FitF (bes Try.prog) 4:=L9 (P:=Try.prog) Try.func4 rfl (by kernel_rfl)
end
end Vm
end
