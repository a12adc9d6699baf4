import Derived.LoopNIn
import Derived.LoopIn
import Derived.Shelf.RegionOpen
import Derived.RecoverIn
import Derived.Maps.OwnIn
import Derived.Test.YtffknkhabklijaaSViewScalars5
set_option linter.unusedSimpArgs false
set_option linter.unusedVariables false
set_option linter.defProp false
set_option maxHeartbeats 4000000
set_option maxRecDepth 100000
theorem Z4m{p:Prop}(h:p:=by have:=HB1.out.size;simp at this;omega):p:=h
theorem Z3R{p:Prop}(h:p:=by have:=heap_alloc_new (w.alloc (.cells #[.int .i64 0,.int .i64 0,.int .i64 0,.bool false,.int .u64 0] 59)) (.cells #[.int .i64 a,.int .i64 0,.int .i64 0,.bool false,.int .u64 0] 59);simp_all):p:=h
theorem Z4h{p:Prop}(h:p:=by have:=h1.size;have:=HB2.out.size;omega):p:=h
theorem Z4i{p:Prop}(h:p:=by rw[cell_of_row _ _ _ _ _ _ hs.box];rfl):p:=h
theorem Z4d{p:Prop}(h:p:=by rw[cell_of_row _ _ _ _ _ _ z1];rfl):p:=h
theorem Z4c{p:Prop}(h:p:=by rw[cell_of_row _ _ _ _ _ _ z0];rfl):p:=h
theorem Z4a{p:Prop}(h:p:=by rw[cell_of_row _ _ _ _ _ _ hbx];rfl):p:=h
theorem Z4b{p:Prop}(h:p:=by rw[cell_of_row _ _ _ _ _ _ hx];rfl):p:=h
theorem Z3O{p:Prop}(h:p:=by decide+kernel):p:=h
theorem Z42{p:Prop}(h:p:=by obtain⟨y,_,rfl⟩:=List.mem_map.1 hx;rfl):p:=h
def Z4O:=@Go.Lib.hid
def Z8y:=@eq_false
def Z5X:=@Go.bodyPost_ret
def Z5K:=@Go.World.cell?_alloc_lt
def Z4Y:=@Go.RowKit.Below.heap_setCell
def Z72:=@Array.replicate_succ
def Z73:=@Array.replicate_zero
def Z7o:=@List.push_toArray
def Z79:=@List.append_toArray
def Z7P:=@Go.callsIn_wide
def Z7v:=@Go.grownBy_setCell'
def Z71:=@List.getD_eq_getElem?_getD
def Z6h:=@List.flatMap_append
def Z8t:=@List.mem_append_right
def Z6B:=@List.getElem?_take_of_lt
def Z89:=@List.drop_append
def Z7j:=@Nat.add_sub_cancel_left
def Z8A:=@List.take_left
def Z80:=@List.flatMap_cons
def Z6C:=@List.length_set
def Z7W:=@List.pairwise_iff_getElem
section
namespace Vm
open Go Go.Proofs Go.RowKit
def CQ{x:Int}(hx:U64 x):VC Sol.prog 135 false [vu x] (.bool (RC x)):=by
 refine Z8 Sol.func135 follows Z2 c135 rfl ?_;simp[p135];refine Z4 (zu hx) Z1 ?_;simp_all[RC]
def TJ{x:Int}(hx:U64 x)(w:World):Calls Sol.prog 135 #[.int .u64 x] w λe w'=>e=.returned (.bool (RC x))/\Below w.heap.size w w':=
 Wy (CQ hx) rfl rfl w
structure Words (w:World) (ws:List Int) (g o cap:Nat):Prop where
 at_:∀(i:Nat) (x:Int),ws[i]?=some x->w.cell? ⟨g,o+i,none⟩=some (.int .u64 x)
 le:ws.length<=cap
 cap:cap<=maxLen
 len:ws.length<=1000000
 u64:∀x∈ws,U64 x
def XD(e:Int):List PanicEntry:=[{v:=.iface 189 (.agg #[.int .i64 e]),recovered:=false}]
def obA(o:Ob):Value:=.agg #[.int .i64 o.at_,.int .i64 o.size,.int .i64 o.ptrs,.bool o.gone,.int .u64 o.target]
def Hl(ws:List Int)(o:Ob):Ending:=
 if(ws.length:Int)<o.at_+1+o.size then .panicked (XD 2)else if ZO ((ws.drop (o.at_.toNat+1)).take o.size.toNat) o.gone o.ptrs 0=false then .panicked (XD 3)else .returned (.tuple #[])
def Ep(w:World)(ws:List Int)(g o cap:Nat)(hw:Words w ws g o cap)(hg:g<w.heap.size)(ob:Ob)(a:Nat)(ha:ob.at_=a)(hlt:a<ws.length)(hsh:Zo ob.size ob.ptrs=true):
  Calls Sol.prog 134 #[.slice (some ⟨g,o,none⟩) ws.length cap,obA ob] w λe w'=>e=Hl ws ob/\Below w.heap.size w w':=by
 have hl:=hw.len;have hc:=hw.le;have hm:=hw.cap;obtain⟨at_,size,ptrs,gone,target⟩:=ob;simp only at ha hsh;subst ha;obtain⟨s1,s2,s3,s4⟩:=Zc.1 hsh;obtain⟨m,rfl⟩:=Z4P s1;have HW:=Z4O hw;have he:Hl ws ⟨a,m,ptrs,gone,target⟩=if(ws.length:Int)<a+1+m then .panicked (XD 2)else if ZO ((ws.drop (a+1)).take m) gone ptrs 0=false then .panicked (XD 3)else .returned (.tuple #[]):=rfl
 generalize Hl ws ⟨a,m,ptrs,gone,target⟩=E at*;unfold obA;dsimp only;by_cases hfit:(ws.length:Int)<a+1+m
 ·rw[if_pos hfit]at he;have HE:=Z4O he;clear he;have hlt2:((ws.length- (a+1):Nat):Int)<m:=Z0;go_enter Sol.func134,Try.ntmps134;go_wp2
  all_goals exact⟨rfl,HE.out.symm,(Z5i _ _).alloc (Z4A _) _⟩
 ·rw[if_neg hfit]at he;have HE:=Z4O he;clear he;have hge2:(m:Int)<=((ws.length- (a+1):Nat):Int):=Z0;have hge3:m<=ws.length- (a+1):=Z0;have hnlt:(ws.length- (a+1)<m)=False:=Z8y Z0;have hcm:m<=cap- (a+1):=Z0;have hm5:m<=255:=Z0;clear hw hfit;by_cases hcap:cap=a+1
  ·have hm0:m=0:=Z0;subst hm0;subst hcap;go_enter Sol.func134,Try.ntmps134;go_wp2
   go_loopw [26] (λi wr=>i=.int .i64 0/\Hid (Below w.heap.size w wr)) (λi _=>0)
   case atStart=>exact⟨rfl,Z4O ((Z5i _ _).alloc (Z4A _) _)⟩
   case round=>
    obtain⟨rfl,HB⟩:=hrel;go_wp2
    go_end0
    exact⟨HE.out.symm,HB.out⟩
  ·go_enter Sol.func134,Try.ntmps134;go_wp2
   go_loopw [26] (λi wr=>∃k:Nat,i=.int .i64 k/\k<=m/\Hid (Below w.heap.size w wr/\wr.heap[w.heap.size]?=some (.cells #[.int .i64 a,.int .i64 m,.int .i64 ptrs,.bool gone,.int .u64 target] 59 (0,0))/\
     ZO ((ws.drop (a+1)).take m) gone ptrs 0=ZO (((ws.drop (a+1)).take m).drop k) gone ptrs k)) (λi _=>m- (intOf i).toNat)
   case atStart=>exact⟨0,rfl,Z0,Z4O ⟨(Z5i _ _).alloc (Z4A _) _,Z5c w _,rfl⟩⟩
   case round=>
    obtain⟨k,rfl,hk,HI⟩:=hrel;by_cases hlt:k<m
    ·obtain⟨x,hx⟩:∃x,ws[a+1+k]?=some x:=⟨_,Z4u Z0⟩;have hu:U64 x:=HW.out.u64 x (Z4B hx)
     have hT:((ws.drop (a+1)).take m)[k]?=some x:=by
      rw[Z55,if_pos hlt,Z5d];exact hx
     have c0:wr.cell? ⟨g,o+(a+1)+k,none⟩=some (.int .u64 x):=by
      rw[Z61];exact(HI.out.1.cell (p:=⟨g,o+(a+1+k),none⟩) hg).trans (HW.out.at_ _ _ hx)
     have c1:wr.cell? ⟨w.heap.size,1,none⟩=some (.int .i64 m):=by rw[Z4Q _ _ _ _ _ _ HI.out.2.1];rfl
     have c2:wr.cell? ⟨w.heap.size,2,none⟩=some (.int .i64 ptrs):=by rw[Z4Q _ _ _ _ _ _ HI.out.2.1];rfl
     have c3:wr.cell? ⟨w.heap.size,3,none⟩=some (.bool gone):=by rw[Z4Q _ _ _ _ _ _ HI.out.2.1];rfl
     have hs:=qG (gone:=gone) (ptrs:=ptrs) hT;have hlt':(k:Int)<m:=Z0;have hbs:=Zv HI.out.2.1;clear hx hT
     have stop:ZO (((ws.drop (a+1)).take m).drop k) gone ptrs k=false->E=.panicked (XD 3):=λh=>by
      rw[HE.out,HI.out.2.2,h,if_pos rfl]
     cases gone
     ·by_cases hp:(k:Int)<ptrs
      ·cases hip:RC x
       ·have HE2:=Z4O (stop Z3M);clear stop hs
        go_wp2_with (go_at_call 135;refine(TJ hu _).mono ?_;rintro e w1 ⟨rfl,hb1⟩;have HB1:=Z4O hb1;clear hb1)
        exact⟨rfl,HE2.out.symm,HI.out.1.trans (HB1.out.mono HI.out.1.size)⟩
       ·have HS:=Z4O (hs.trans (by simp[hip]:_=ZO (((ws.drop (a+1)).take m).drop (k+1)) false ptrs (k+1)));clear stop hs
        go_wp2_with (go_at_call 135;refine(TJ hu _).mono ?_;rintro e w1 ⟨rfl,hb1⟩;have HB1:=Z4O hb1;clear hb1)
        go_wp2
        go_roundw
        case rel=>
         exact⟨k+1,by go_num,Z0,Z4O ⟨HI.out.1.trans (HB1.out.mono HI.out.1.size),(HB1.out.block _ hbs).trans HI.out.2.1,HI.out.2.2.trans HS.out⟩⟩
        case measure=>grind [intOf]
      ·have HS:=Z4O (hs.trans (by simp[hp]:_=ZO (((ws.drop (a+1)).take m).drop (k+1)) false ptrs (k+1)));clear stop hs;go_wp2
       go_roundw
       case rel=>exact⟨k+1,by go_num,Z0,Z4O ⟨HI.out.1,HI.out.2.1,HI.out.2.2.trans HS.out⟩⟩
       case measure=>grind [intOf]
     ·by_cases h0:x=0
      ·subst h0;have HS:=Z4O (hs.trans (by simp[RC]:_=ZO (((ws.drop (a+1)).take m).drop (k+1)) true ptrs (k+1)));clear stop hs;go_wp2
       go_roundw
       case rel=>exact⟨k+1,by go_num,Z0,Z4O ⟨HI.out.1,HI.out.2.1,HI.out.2.2.trans HS.out⟩⟩
       case measure=>grind [intOf]
      ·have HE2:=Z4O (stop Z3M);clear stop hs;go_wp2;exact⟨rfl,HE2.out.symm,HI.out.1⟩
    ·have:k=m:=Z0;subst this;have h3:=HI.out.2.2;have hd:((ws.drop (a+1)).take k).drop k=[]:=Z67 Z3M;rw[hd]at h3;have HE2:=Z4O (HE.out.trans (by rw[h3];rfl:_=Ending.returned (.tuple #[])));clear h3 hd;go_wp2
     go_end0
     exact⟨HE2.out.symm,HI.out.1⟩
end Vm
namespace Vm
open Go Go.Proofs Go.RowKit
def ND(w:World):Sem.run Sol.prog (binOp .neq 190 .nilFunc .nilFunc) w=.ok (.bool false) w:=Z4r
def Fg(w:World)(f:FuncId)(vs:Array Value):Sem.run Sol.prog (binOp .neq 190 (.func (.func f) #[] vs) .nilFunc) w=.ok (.bool true) w:=Z4r
def row5{w:World}{b:Nat}{T:TypeId}{v0 v1 v2 v3 v4:Value}(h:w.heap[b]?=some (.cells #[v0,v1,v2,v3,v4] T (0,0)))(O:Obj):
  ((w.alloc O).cell? ⟨b,0,none⟩=some v0/\(w.alloc O).cell? ⟨b,1,none⟩=some v1/\(w.alloc O).cell? ⟨b,2,none⟩=some v2/\(w.alloc O).cell? ⟨b,3,none⟩=some v3/\(w.alloc O).cell? ⟨b,4,none⟩=some v4)/\
  (w.alloc O).frozen? ⟨b,0,none⟩=false/\(w.alloc O).frozen? ⟨b,1,none⟩=false/\(w.alloc O).frozen? ⟨b,2,none⟩=false/\(w.alloc O).frozen? ⟨b,3,none⟩=false/\(w.alloc O).frozen? ⟨b,4,none⟩=false:=by
 have h':(w.alloc O).heap[b]?=some (.cells #[v0,v1,v2,v3,v4] T (0,0)):=(Z4U _ _ _ (Zv h)).trans h;refine⟨⟨?_,?_,?_,?_,?_⟩,ZX h',ZX h',ZX h',ZX h',ZX h'⟩<;>(rw[Z4Q _ _ _ _ _ _ h'];rfl)
def begE(a:Nat)(x:Int):Ending:=if(unpk x).2.2=0 then .returned (obA ⟨a,(unpk x).1,(unpk x).2.1,false,0⟩)else .panicked (XD 3)
def DI(w:World)(ws:List Int)(g o cap:Nat)(hw:Words w ws g o cap)(hg:g<w.heap.size)(a:Nat)(x:Int)(hx:ws[a]?=some x):
  Calls Sol.prog 133 #[.slice (some ⟨g,o,none⟩) ws.length cap,.int .i64 a,.nilFunc] w λe w'=>e=begE a x/\Below w.heap.size w w':=by
 have hl:=hw.len;have hc:=hw.le;have hm:=hw.cap;have hlt:a<ws.length:=(Z4v.1 hx).1;have hlt':(a:Int)<ws.length:=Z0;have hu:U64 x:=hw.u64 x (Z4B hx);have c0:=hw.at_ a x hx;have cc:∀W,Below w.heap.size w W->W.cell? ⟨g,o+a,none⟩=some (.int .u64 x):=λW hb=>(hb.cell (p:=⟨g,o+a,none⟩) hg).trans c0;have he:begE a x=if(unpk x).2.2=0 then .returned (obA ⟨a,(unpk x).1,(unpk x).2.1,false,0⟩)else .panicked (XD 3):=rfl
 generalize begE a x=E at*;have HC:=Z4O cc;have hnil:=ND;clear hw hx cc;by_cases h0:(unpk x).2.2=0
 ·rw[if_pos h0]at he;have HE:=Z4O he;clear he;go_enter Sol.func133,Try.ntmps133
  go_wp2_with (first
   |(go_at_call 44;refine(Wv hu _).mono ?_;rintro e w1 ⟨rfl,hb1⟩;have HB1:=Z4O hb1;have d0:=HC.out w1 (((((Z5i _ w).alloc (Z4A _) _).alloc Z1 _).trans (hb1.mono Z3N)));clear hb1)
   | (go_at_call 69;refine(Uu hu _).mono ?_;rintro e w2 ⟨rfl,hb2⟩;have HB2:=Z4O hb2
      have hB:=HB1.out.block;have r0:w2.heap[w.heap.size]?=some (.cells #[.int .i64 0,.int .i64 0,.int .i64 0,.bool false,.int .u64 0] 59 (0,0)):=(hb2.block _ Z4m).trans ((HB1.out.block _ Z3N).trans ((Z4U _ _ _ Z1).trans (Z5c w _)));have r1:w2.heap[w.heap.size+1]?=some (.cells #[.int .i64 a,.int .i64 0,.int .i64 0,.bool false,.int .u64 0] 59 (0,0)):=(hb2.block _ Z4m).trans ((HB1.out.block _ Z1).trans Z3R);obtain⟨⟨x0,x1,x2,x3,x4⟩,y0,y1,y2,y3,y4⟩:=row5 r0 (.cells #[.int .i64 (unpk x).1,.int .i64 (unpk x).2.1] 52);obtain⟨⟨p0,p1,p2,p3,p4⟩,q0,q1,q2,q3,q4⟩:=row5 r1 (.cells #[.int .i64 (unpk x).1,.int .i64 (unpk x).2.1] 52);have HR:=Z4O (And.intro r0 r1);clear hb2 hB r0 r1))
  refine Z5X (v:=obA ⟨a,(unpk x).1,(unpk x).2.1,false,0⟩) ?_ rfl ⟨HE.out.symm,?_⟩
  ·simp[results,Try.results133,go_sem,obA,x0,x1,x2,x3,x4]
  ·have h1:=(((Z5i _ w).alloc (Z4A _) (.cells #[.int .i64 0,.int .i64 0,.int .i64 0,.bool false,.int .u64 0] 59)).alloc Z1 (.cells #[.int .i64 a,.int .i64 0,.int .i64 0,.bool false,.int .u64 0] 59)).trans (HB1.out.mono Z3N);have h2:=(h1.trans (HB2.out.mono (by have:=h1.size;omega))).alloc Z4h (.cells #[.int .i64 (unpk x).1,.int .i64 (unpk x).2.1] 52);exact((((((h2.setCell (p:=⟨w.heap.size+1,1,none⟩) Z1 _).setCell (p:=⟨w.heap.size+1,2,none⟩) Z1 _).setCell (p:=⟨w.heap.size,0,none⟩) (Z4A _) _).setCell (p:=⟨w.heap.size,1,none⟩) (Z4A _) _).setCell (p:=⟨w.heap.size,2,none⟩) (Z4A _) _).setCell (p:=⟨w.heap.size,3,none⟩) (Z4A _) _).setCell (p:=⟨w.heap.size,4,none⟩) (Z4A _) _
 ·rw[if_neg h0]at he;have HE:=Z4O he;clear he;have h0':((unpk x).2.2=0)=False:=Z8y h0;go_enter Sol.func133,Try.ntmps133
  go_wp2_with (first
   |(go_at_call 44;refine(Wv hu _).mono ?_;rintro e w1 ⟨rfl,hb1⟩;have HB1:=Z4O hb1;have d0:=HC.out w1 (((((Z5i _ w).alloc (Z4A _) _).alloc Z1 _).trans (hb1.mono Z3N)));clear hb1)
   |(go_at_call 69;refine(Uu hu _).mono ?_;rintro e w2 ⟨rfl,hb2⟩;have HB2:=Z4O hb2;clear hb2))
  refine⟨rfl,HE.out.symm,?_⟩;have h1:=(((Z5i _ w).alloc (Z4A _) (.cells #[.int .i64 0,.int .i64 0,.int .i64 0,.bool false,.int .u64 0] 59)).alloc Z1 (.cells #[.int .i64 a,.int .i64 0,.int .i64 0,.bool false,.int .u64 0] 59)).trans (HB1.out.mono Z3N);exact(h1.trans (HB2.out.mono (by have:=h1.size;omega))).alloc Z4h _
end Vm
namespace Vm
open Go Go.Proofs Go.RowKit
def TW(s p:Int)(w:World):Calls Sol.prog 94 #[.agg #[.int .i64 s,.int .i64 p]] w λe w'=>e=.returned (.bool (Zo s p))/\Below w.heap.size w w':=
 Wy qr rfl rfl w
structure Shps (w:World) (shs:List (Int×Int)) (bs:Nat) (v:Value):Prop where
 box:w.heap[bs]?=some (.cells #[v] 180 (0,0))
 val:(∃g o cap,v=.slice (some ⟨g,o,none⟩) shs.length cap/\shs.length<=cap/\cap<=maxLen/\g<w.heap.size/\∀(i:Nat) (x:Int×Int),shs[i]?=some x->w.cell? ⟨g,o+i*2,none⟩=some (.int .i64 x.1)/\w.cell? ⟨g,o+i*2+1,none⟩=some (.int .i64 x.2))\/
  (∃a cap,v=.slice a 0 cap/\shs=[])
def Hj(w:World)(shs:List (Int×Int))(bt bs:Nat)(v:Value)(hl:shs.length<=1000000)(hs:Shps w shs bs v)(hb:w.heap[bt]?=some (.cells #[.int .i64 shs.length] 3 (0,0))):
  Calls Sol.prog 129 #[.pointer (some ⟨bt,0,none⟩),.pointer (some ⟨bs,0,none⟩)] w λe w'=>e=.panicked (XD 3)/\Below w.heap.size w w':=by
 have c0:w.cell? ⟨bt,0,none⟩=some (.int .i64 shs.length):=by rw[Z4Q _ _ _ _ _ _ hb];rfl
 have hbl:=Zv hb;have hbl2:=Zv hs.box;have c1:w.cell? ⟨bs,0,none⟩=some v:=Z4i;obtain⟨g,o,cap,rfl,h1,h2,h3,h4⟩|⟨a,cap,rfl,rfl⟩:=hs.val
 ·clear h4 hs hb;go_enter Sol.func129,Try.ntmps129;go_wp2;exact⟨rfl,rfl,(Z5i _ _).alloc (Z4A _) _⟩
 ·clear hs hb;simp only[Z6j]at c0;go_enter Sol.func129,Try.ntmps129;go_wp2;exact⟨rfl,rfl,(Z5i _ _).alloc (Z4A _) _⟩
def Hi(w:World)(shs:List (Int×Int))(bt bs t:Nat)(v:Value)(x:Int×Int)(hl:shs.length<=1000000)(hs:Shps w shs bs v)(hb:w.heap[bt]?=some (.cells #[.int .i64 t] 3 (0,0)))(hx:shs[t]?=some x)(hn:Zo x.1 x.2=false):
  Calls Sol.prog 129 #[.pointer (some ⟨bt,0,none⟩),.pointer (some ⟨bs,0,none⟩)] w λe w'=>e=.panicked (XD 3)/\Below w.heap.size w w':=by
 have c0:w.cell? ⟨bt,0,none⟩=some (.int .i64 t):=by rw[Z4Q _ _ _ _ _ _ hb];rfl
 have hbl:=Zv hb;have hbl2:=Zv hs.box;have hlt:t<shs.length:=(Z4v.1 hx).1;have hne:¬t=shs.length:=Z0;have hlt':(t:Int)<shs.length:=Z0;have c1:w.cell? ⟨bs,0,none⟩=some v:=Z4i;obtain⟨g,o,cap,rfl,h1,h2,h3,h4⟩|⟨a,cap,rfl,rfl⟩:=hs.val
 ·obtain⟨d0,d1⟩:=h4 t x hx;have e2:=TW x.1 x.2;rw[hn]at e2;clear h4 hs hb hx hn;go_enter Sol.func129,Try.ntmps129
  go_wp2_with (go_at_call 94;refine(e2 _).mono ?_;rintro e w1 ⟨rfl,hb1⟩;have HB1:=Z4O hb1;clear hb1)
  exact⟨rfl,rfl,((Z5i _ w).alloc (Z4A _) _).trans (HB1.out.mono Z1)⟩
 grind
def Nc(w:World)(shs:List (Int×Int))(bt bs t:Nat)(v:Value)(x:Int×Int)(hl:shs.length<=1000000)(hs:Shps w shs bs v)(hb:w.heap[bt]?=some (.cells #[.int .i64 t] 3 (0,0)))(hx:shs[t]?=some x)(hn:Zo x.1 x.2=true)(hbs:bs≠bt)
  (hgb:∀g o cap,v=.slice (some ⟨g,o,none⟩) shs.length cap->g≠bt):
  Calls Sol.prog 129 #[.pointer (some ⟨bt,0,none⟩),.pointer (some ⟨bs,0,none⟩)] w λe w'=>e=.returned (.agg #[.int .i64 x.1,.int .i64 x.2])/\w.grownBy w' (some bt)/\w'.heap[bt]?=some (.cells #[.int .i64 ((t+1:Nat):Int)] 3 (0,0)):=by
 have c0:w.cell? ⟨bt,0,none⟩=some (.int .i64 t):=by rw[Z4Q _ _ _ _ _ _ hb];rfl
 have hbl:=Zv hb;have hbl2:=Zv hs.box;have hlt:t<shs.length:=(Z4v.1 hx).1;have hne:¬t=shs.length:=Z0;have hlt':(t:Int)<shs.length:=Z0;have c1:w.cell? ⟨bs,0,none⟩=some v:=Z4i;have hf:=ZX (o:=0) hb;have hbs':¬bs=bt:=hbs;have hbs2:¬bt=bs:=λe=>hbs e.symm;obtain⟨g,o,cap,rfl,h1,h2,h3,h4⟩|⟨a,cap,rfl,rfl⟩:=hs.val
 ·obtain⟨d0,d1⟩:=h4 t x hx;have hg:=hgb g o cap rfl;have e2:=TW x.1 x.2;rw[hn]at e2;have HB:=Z4O hb;clear h4 hs hb hx hn hgb;go_enter Sol.func129,Try.ntmps129
  go_wp2_with (go_at_call 94;refine(e2 _).mono ?_;rintro e w1 ⟨rfl,hb1⟩
               have HB1:=Z4O hb1;have s1:=hb1.size;have k0:w1.cell? ⟨bt,0,none⟩=some (.int .i64 t):=(hb1.cell (p:=⟨bt,0,none⟩) Z3N).trans ((Z5K _ _ _ hbl).trans c0);have k1:w1.frozen? ⟨bt,0,none⟩=false:=ZX ((hb1.block bt Z3N).trans ((Z4U _ _ _ hbl).trans HB.out));have k2:w1.cell? ⟨bs,0,none⟩=some (.slice (some ⟨g,o,none⟩) shs.length cap):=(hb1.cell (p:=⟨bs,0,none⟩) Z3N).trans ((Z5K _ _ _ hbl2).trans c1);have k3:w1.cell? ⟨g,o+t*2,none⟩=some (.int .i64 x.1):=(hb1.cell (p:=⟨g,o+t*2,none⟩) Z3N).trans ((Z5K _ _ _ h3).trans d0);have k4:w1.cell? ⟨g,o+t*2+1,none⟩=some (.int .i64 x.2):=(hb1.cell (p:=⟨g,o+t*2+1,none⟩) Z3N).trans ((Z5K _ _ _ h3).trans d1);have r0:w1.heap[w.heap.size]?=some (.cells #[.int .i64 0,.int .i64 0] 52 (0,0)):=(hb1.block _ Z1).trans (Z5c w _);have x0:w1.cell? ⟨w.heap.size,0,none⟩=some (.int .i64 0):=by rw[Z4Q _ _ _ _ _ _ r0];rfl
               have x1:w1.cell? ⟨w.heap.size,1,none⟩=some (.int .i64 0):=by rw[Z4Q _ _ _ _ _ _ r0];rfl
               have y0:=ZX (o:=0) r0;have y1:=ZX (o:=1) r0;have n1:¬w.heap.size=bt:=Z0;have n2:¬bt=w.heap.size:=Z0;have HR:=Z4O r0;clear hb1 r0)
  have hB:Below w.heap.size w w1:=((Z5i _ w).alloc (Z4A _) (.cells #[.int .i64 0,.int .i64 0] 52)).trans (HB1.out.mono Z1);have hw1:w1.heap[bt]?=some (.cells #[.int .i64 t] 3 (0,0)):=(hB.block bt hbl).trans HB.out;refine Z5X (v:=.agg #[.int .i64 x.1,.int .i64 x.2]) ?_ rfl ⟨rfl,⟨hB.os,hB.tape,hB.output,?_,λk hk hne=> ?_⟩,?_⟩
  ·simp[results,Try.results129,go_sem,x0,x1,n1,n2]
  ·simp[World.setCell];exact hB.size
  ·have hkb:k≠bt:=λe=>hne (by rw[e]);rw[Z4Y _ _ _ _ Z3L,Z4Y _ _ _ _ Z3L,Z4Y _ _ _ _ hkb];exact hB.block k hk
  simp_all[Z4Y,World.setCell,Z5T]
 grind
end Vm
namespace Vm
open Go Go.Proofs Go.RowKit
def Le(w:World)(f:FuncId)(vs:Array Value)(ws:List Int)(g o cap:Nat)(hw:Words w ws g o cap)(hg:g<w.heap.size)(a:Nat)(x:Int)(hx:ws[a]?=some x)(hna:¬(adr x).2=0):
  Calls Sol.prog 133 #[.slice (some ⟨g,o,none⟩) ws.length cap,.int .i64 a,.func (.func f) #[] vs] w λe w'=>e=begE a x/\Below w.heap.size w w':=by
 have hl:=hw.len;have hc:=hw.le;have hm:=hw.cap;have hlt:a<ws.length:=(Z4v.1 hx).1;have hlt':(a:Int)<ws.length:=Z0;have hu:U64 x:=hw.u64 x (Z4B hx);have c0:=hw.at_ a x hx;have cc:∀W,Below w.heap.size w W->W.cell? ⟨g,o+a,none⟩=some (.int .u64 x):=λW hb=>(hb.cell (p:=⟨g,o+a,none⟩) hg).trans c0;have he:begE a x=if(unpk x).2.2=0 then .returned (obA ⟨a,(unpk x).1,(unpk x).2.1,false,0⟩)else .panicked (XD 3):=rfl
 generalize begE a x=E at*;have HC:=Z4O cc;have hfn:=λW=>Fg W f vs;have hna':((adr x).2=0)=False:=Z8y hna;clear hw hx cc;by_cases h0:(unpk x).2.2=0
 ·rw[if_pos h0]at he;have HE:=Z4O he;clear he;go_enter Sol.func133,Try.ntmps133
  go_wp2_with (first
   |(go_at_call 44;refine(Wv hu _).mono ?_;rintro e w1 ⟨rfl,hb1⟩;have HB1:=Z4O hb1;have d0:=HC.out w1 (((((Z5i _ w).alloc (Z4A _) _).alloc Z1 _).trans (hb1.mono Z3N)));clear hb1)
   | (go_at_call 69;refine(Uu hu _).mono ?_;rintro e w2 ⟨rfl,hb2⟩;have HB2:=Z4O hb2
      have hB:=HB1.out.block;have r0:w2.heap[w.heap.size]?=some (.cells #[.int .i64 0,.int .i64 0,.int .i64 0,.bool false,.int .u64 0] 59 (0,0)):=(hb2.block _ Z4m).trans ((HB1.out.block _ Z3N).trans ((Z4U _ _ _ Z1).trans (Z5c w _)));have r1:w2.heap[w.heap.size+1]?=some (.cells #[.int .i64 a,.int .i64 0,.int .i64 0,.bool false,.int .u64 0] 59 (0,0)):=(hb2.block _ Z4m).trans ((HB1.out.block _ Z1).trans Z3R);obtain⟨⟨x0,x1,x2,x3,x4⟩,y0,y1,y2,y3,y4⟩:=row5 r0 (.cells #[.int .i64 (unpk x).1,.int .i64 (unpk x).2.1] 52);obtain⟨⟨p0,p1,p2,p3,p4⟩,q0,q1,q2,q3,q4⟩:=row5 r1 (.cells #[.int .i64 (unpk x).1,.int .i64 (unpk x).2.1] 52);have HR:=Z4O (And.intro r0 r1);clear hb2 hB r0 r1))
  refine Z5X (v:=obA ⟨a,(unpk x).1,(unpk x).2.1,false,0⟩) ?_ rfl ⟨HE.out.symm,?_⟩
  ·simp[results,Try.results133,go_sem,obA,x0,x1,x2,x3,x4]
  ·have h1:=(((Z5i _ w).alloc (Z4A _) (.cells #[.int .i64 0,.int .i64 0,.int .i64 0,.bool false,.int .u64 0] 59)).alloc Z1 (.cells #[.int .i64 a,.int .i64 0,.int .i64 0,.bool false,.int .u64 0] 59)).trans (HB1.out.mono Z3N);have h2:=(h1.trans (HB2.out.mono (by have:=h1.size;omega))).alloc Z4h (.cells #[.int .i64 (unpk x).1,.int .i64 (unpk x).2.1] 52);exact((((((h2.setCell (p:=⟨w.heap.size+1,1,none⟩) Z1 _).setCell (p:=⟨w.heap.size+1,2,none⟩) Z1 _).setCell (p:=⟨w.heap.size,0,none⟩) (Z4A _) _).setCell (p:=⟨w.heap.size,1,none⟩) (Z4A _) _).setCell (p:=⟨w.heap.size,2,none⟩) (Z4A _) _).setCell (p:=⟨w.heap.size,3,none⟩) (Z4A _) _).setCell (p:=⟨w.heap.size,4,none⟩) (Z4A _) _
 ·rw[if_neg h0]at he;have HE:=Z4O he;clear he;have h0':((unpk x).2.2=0)=False:=Z8y h0;go_enter Sol.func133,Try.ntmps133
  go_wp2_with (first
   |(go_at_call 44;refine(Wv hu _).mono ?_;rintro e w1 ⟨rfl,hb1⟩;have HB1:=Z4O hb1;have d0:=HC.out w1 (((((Z5i _ w).alloc (Z4A _) _).alloc Z1 _).trans (hb1.mono Z3N)));clear hb1)
   |(go_at_call 69;refine(Uu hu _).mono ?_;rintro e w2 ⟨rfl,hb2⟩;have HB2:=Z4O hb2;clear hb2))
  refine⟨rfl,HE.out.symm,?_⟩;have h1:=(((Z5i _ w).alloc (Z4A _) (.cells #[.int .i64 0,.int .i64 0,.int .i64 0,.bool false,.int .u64 0] 59)).alloc Z1 (.cells #[.int .i64 a,.int .i64 0,.int .i64 0,.bool false,.int .u64 0] 59)).trans (HB1.out.mono Z3N);exact(h1.trans (HB2.out.mono (by have:=h1.size;omega))).alloc Z4h _
def UC(w:World)(vs:Array Value)(ws:List Int)(g o cap:Nat)(hw:Words w ws g o cap)(hg:g<w.heap.size)(a:Nat)(x:Int)(hx:ws[a]?=some x)(hna:(adr x).2=0)
  (hcall:∀W,Below w.heap.size w W->Calls Sol.prog 129 vs W λe W'=>e=.panicked (XD 3)/\Below W.heap.size W W'):
  Calls Sol.prog 133 #[.slice (some ⟨g,o,none⟩) ws.length cap,.int .i64 a,.func (.func 129) #[] vs] w λe w'=>e=.panicked (XD 3)/\Below w.heap.size w w':=by
 have hl:=hw.len;have hc:=hw.le;have hm:=hw.cap;have hlt:a<ws.length:=(Z4v.1 hx).1;have hlt':(a:Int)<ws.length:=Z0;have hu:U64 x:=hw.u64 x (Z4B hx);have c0:=hw.at_ a x hx;have hfn:=λW=>Fg W 129 vs;have HX:=Z4O hcall;clear hw hx hcall;go_enter Sol.func133,Try.ntmps133
 go_wp2_with (first
  | (go_at_call 44;refine(Wv hu _).mono ?_;rintro e w1 ⟨rfl,hb1⟩
     have hB:Below w.heap.size w w1:=((((Z5i _ w).alloc (Z4A _) _).alloc Z1 _).trans (hb1.mono Z3N));have r1:w1.heap[w.heap.size+1]?=some (.cells #[.int .i64 a,.int .i64 0,.int .i64 0,.bool false,.int .u64 0] 59 (0,0)):=(hb1.block _ Z1).trans Z3R;have p3:w1.cell? ⟨w.heap.size+1,3,none⟩=some (.bool false):=by rw[Z4Q _ _ _ _ _ _ r1];rfl
     have p4:w1.cell? ⟨w.heap.size+1,4,none⟩=some (.int .u64 0):=by rw[Z4Q _ _ _ _ _ _ r1];rfl
     have q3:=ZX (o:=3) r1;have q4:=ZX (o:=4) r1;have HB:=Z4O hB;clear hb1 hB r1)
  |(go_at_call 129;refine(HX.out _ ?_).mono ?_;rotate_left;rintro e w2 ⟨rfl,hb2⟩;have HB2:=Z4O hb2;clear hb2))
 case refine_1=>exact(HB.out.setCell (p:=⟨w.heap.size+1,3,none⟩) Z1 _).setCell (p:=⟨w.heap.size+1,4,none⟩) Z1 _
 case refine_2=>
  have h2:=(HB.out.setCell (p:=⟨w.heap.size+1,3,none⟩) Z1 (.bool true)).setCell (p:=⟨w.heap.size+1,4,none⟩) Z1 (.int .u64 (adr x).1);exact⟨rfl,rfl,h2.trans (HB2.out.mono h2.size)⟩
theorem En{w W:World}{r:Option Nat}(h:w.grownBy W r){p:Addr}(hp:w.heap.size<=p.block)(u:Value):w.grownBy (W.setCell p u) r:=
 ⟨h.os,h.tape,h.output,by simpa[World.setCell]using h.size,λk hk hne=>(Z4Y _ _ _ _ Z0).trans (h.block k hk hne)⟩
def Ld(w:World)(vs:Array Value)(ws:List Int)(g o cap:Nat)(hw:Words w ws g o cap)(hg:g<w.heap.size)(a:Nat)(x:Int)(hx:ws[a]?=some x)(hna:(adr x).2=0)
  (bt:Nat) (O:Obj) (s p:Int) (hbt:bt<w.heap.size)
  (hcall:∀W,Below w.heap.size w W->Calls Sol.prog 129 vs W λe W'=>e=.returned (.agg #[.int .i64 s,.int .i64 p])/\W.grownBy W' (some bt)/\W'.heap[bt]?=some O):
  Calls Sol.prog 133 #[.slice (some ⟨g,o,none⟩) ws.length cap,.int .i64 a,.func (.func 129) #[] vs] w λe w'=>e=.returned (obA ⟨a,s,p,true,(adr x).1⟩)/\w.grownBy w' (some bt)/\w'.heap[bt]?=some O:=by
 have hl:=hw.len;have hc:=hw.le;have hm:=hw.cap;have hlt:a<ws.length:=(Z4v.1 hx).1;have hlt':(a:Int)<ws.length:=Z0;have hu:U64 x:=hw.u64 x (Z4B hx);have c0:=hw.at_ a x hx;have hfn:=λW=>Fg W 129 vs;have HX:=Z4O hcall;clear hw hx hcall;go_enter Sol.func133,Try.ntmps133
 go_wp2_with (first
  | (go_at_call 44;refine(Wv hu _).mono ?_;rintro e w1 ⟨rfl,hb1⟩
     have hB:Below w.heap.size w w1:=((((Z5i _ w).alloc (Z4A _) _).alloc Z1 _).trans (hb1.mono Z3N));have r1:w1.heap[w.heap.size+1]?=some (.cells #[.int .i64 a,.int .i64 0,.int .i64 0,.bool false,.int .u64 0] 59 (0,0)):=(hb1.block _ Z1).trans Z3R;have p3:w1.cell? ⟨w.heap.size+1,3,none⟩=some (.bool false):=by rw[Z4Q _ _ _ _ _ _ r1];rfl
     have p4:w1.cell? ⟨w.heap.size+1,4,none⟩=some (.int .u64 0):=by rw[Z4Q _ _ _ _ _ _ r1];rfl
     have q3:=ZX (o:=3) r1;have q4:=ZX (o:=4) r1;have r0:w1.heap[w.heap.size]?=some (.cells #[.int .i64 0,.int .i64 0,.int .i64 0,.bool false,.int .u64 0] 59 (0,0)):=(hb1.block _ Z3N).trans ((Z4U _ _ _ Z1).trans (Z5c w _));have HR:=Z4O (And.intro r0 r1);have HB:=Z4O hB;clear hb1 hB r0 r1)
  | (go_at_call 129;refine(HX.out _ ?_).mono ?_;rotate_left;rintro e w2 ⟨rfl,hb2,ho2⟩
     have HB2:=Z4O hb2;have HO2:=Z4O ho2;have z1:w2.heap[w.heap.size+1]?=some (.cells #[.int .i64 a,.int .i64 0,.int .i64 0,.bool true,.int .u64 (adr x).1] 59 (0,0)):=(hb2.block _ (by simp[World.setCell];exact Zv HR.out.2) Z3N).trans (by simp[World.setCell,Z5T,HR.out.2]);have z0:w2.heap[w.heap.size]?=some (.cells #[.int .i64 0,.int .i64 0,.int .i64 0,.bool false,.int .u64 0] 59 (0,0)):=(hb2.block _ (by simp[World.setCell];exact Zv HR.out.1) Z3N).trans (by simp[World.setCell,Z5T,HR.out.1]);have s0:w2.cell? ⟨w.heap.size+1,0,none⟩=some (.int .i64 a):=Z4d;have s1:w2.cell? ⟨w.heap.size+1,1,none⟩=some (.int .i64 0):=Z4d;have s2:w2.cell? ⟨w.heap.size+1,2,none⟩=some (.int .i64 0):=Z4d;have s3:w2.cell? ⟨w.heap.size+1,3,none⟩=some (.bool true):=Z4d;have s4:w2.cell? ⟨w.heap.size+1,4,none⟩=some (.int .u64 (adr x).1):=Z4d;have t0:w2.cell? ⟨w.heap.size,0,none⟩=some (.int .i64 0):=Z4c;have t1:w2.cell? ⟨w.heap.size,1,none⟩=some (.int .i64 0):=Z4c;have t2:w2.cell? ⟨w.heap.size,2,none⟩=some (.int .i64 0):=Z4c;have t3:w2.cell? ⟨w.heap.size,3,none⟩=some (.bool false):=Z4c;have t4:w2.cell? ⟨w.heap.size,4,none⟩=some (.int .u64 0):=Z4c;have u1:=ZX (o:=1) z1;have u2:=ZX (o:=2) z1;have v0:=ZX (o:=0) z0;have v1:=ZX (o:=1) z0;have v2:=ZX (o:=2) z0;have v3:=ZX (o:=3) z0;have v4:=ZX (o:=4) z0;clear hb2 ho2 z0 z1))
 case refine_1=>exact(HB.out.setCell (p:=⟨w.heap.size+1,3,none⟩) Z1 _).setCell (p:=⟨w.heap.size+1,4,none⟩) Z1 _
 next=>
  have h2:=(HB.out.setCell (p:=⟨w.heap.size+1,3,none⟩) Z1 (.bool true)).setCell (p:=⟨w.heap.size+1,4,none⟩) Z1 (.int .u64 (adr x).1);have hg2:w.grownBy w2 (some bt):=⟨HB2.out.os.trans h2.os,HB2.out.tape.trans h2.tape,HB2.out.output.trans h2.output,Z4Z h2.size HB2.out.size,λk hk hne=>(HB2.out.block k (Z4F hk h2.size) hne).trans (h2.block k hk)⟩;have k1:bt≠w.heap.size+1:=Z0;have k2:bt≠w.heap.size:=Z0;clear h2;refine Z5X (v:=obA ⟨a,s,p,true,(adr x).1⟩) ?_ rfl ⟨rfl,?_,?_⟩
  ·simp[results,Try.results133,go_sem,obA,t0,t1,t2,t3,t4]
  ·grind [En]
  ·rw[Z4Y _ _ _ _ k2,Z4Y _ _ _ _ k2,Z4Y _ _ _ _ k2,Z4Y _ _ _ _ k2,Z4Y _ _ _ _ k2,Z4Y _ _ _ _ k1,Z4Y _ _ _ _ k1];exact HO2.out
end Vm
namespace Vm
open Go Go.Proofs Go.RowKit Go.Shelf
def rowB(W:World)(bl:Nat):Option Nat:=(W.cell? ⟨bl,0,none⟩).bind Value.ownBlock
structure KpW (bl base:Nat) (A B:World):Prop where
 size:A.heap.size<=B.heap.size
 same:∀k o,A.heap[k]?=some o->o.isCells=true->k≠bl->(k<base\/rowB A bl≠some k)->B.heap[k]?=some o
 row:∀k,k<A.heap.size->rowB B bl=some k->rowB A bl=some k
theorem KpW.trans{bl base:Nat}{A B C:World}(h:KpW bl base A B)(k:KpW bl base B C):KpW bl base A C:=
 ⟨Z4Z h.size k.size,λi o hi hc hn hr=>k.same i o (h.same i o hi hc hn hr) hc hn (hr.imp id λhne e=>hne (h.row i (Zv hi) e)),λi hi hr=>h.row i hi (k.row i (Z4F hi h.size) hr)⟩
theorem KpW.put{bl base:Nat}{W:World}{l:Nat}{o:Obj}(o':Obj)(hl:W.heap[l]?=some o)(ho:o.isCells=false)(hne:bl≠l):KpW bl base W (W.putObj l o'):=by
 have hcell:(W.putObj l o').cell? ⟨bl,0,none⟩=W.cell? ⟨bl,0,none⟩:=Z5j (Z5E Z0);refine⟨(Z7H W l o').size,λk o2 hk hk2 _ _=> ?_,λk _ hr=> ?_⟩
 ·grind [World.putObj_heap_other,trans]
 simp_all[rowB]
def GN(ws:List Int)(g o cap:Nat)(gv:Value)(shs:List (Int×Int))(old:Bool)(bt:Option Nat)(K:Nat->World->Prop):Prop:=
 ∀(W:World) (a t:Nat) (x:Int),Words W ws g o cap->g<W.heap.size->K t W->ws[a]?=some x->
  Calls Sol.prog 133 #[.slice (some ⟨g,o,none⟩) ws.length cap,.int .i64 a,gv] W λe W'=>W.grownBy W' bt/\match objR shs old a t x with
   |some (ob,t')=>e=.returned (obA ob)/\K t' W'
   |none=>e=.panicked (XD 3)
def endS(ws:List Int)(shs:List (Int×Int))(old:Bool)(K:Nat->World->Prop)(xs:List Ob)(W:World):Prop:=
 ∃t,K t W/\Zs ws shs old=(if t<shs.length then([],3)else(xs,0))
def endP(ws:List Int)(shs:List (Int×Int))(old:Bool)(chain:List PanicEntry)(pre:List Ob)(W:World):Prop:=
 ∃e,(e=2\/e=3)/\chain=XD e/\Zs ws shs old=([],e)
structure Stat6 (ws:List Int) (g o cap:Nat) (sv:Value) (bw bg base bl:Nat) (bt:Option Nat) (gv:Value) (W:World):Prop where
 words:Words W ws g o cap
 sv_:sv=.slice (some ⟨g,o,none⟩) ws.length cap\/(ws=[]/\∃a c,sv=.slice a 0 c)
 hbw:W.heap[bw]?=some (.cells #[sv] 35 (0,0))
 hbg:W.heap[bg]?=some (.cells #[gv] 190 (0,0))
 gb:ws≠[]->∃ob,W.heap[g]?=some ob/\ob.isCells=true
 lt:g<base/\bw<base/\bg<base/\base<=W.heap.size
 ne:g≠bl/\bw≠bl/\bg≠bl
 nt:some g≠bt/\some bw≠bt/\some bg≠bt
section
variable {ws:List Int}{g o cap bw bg base bl:Nat}{bt:Option Nat}{sv gv:Value}{W W':World}
theorem Stat6.of(h:Stat6 ws g o cap sv bw bg base bl bt gv W)(hs:W.heap.size<=W'.heap.size)(hb:∀k ob,W.heap[k]?=some ob->ob.isCells=true->k<base->k≠bl->some k≠bt->W'.heap[k]?=some ob):Stat6 ws g o cap sv bw bg base bl bt gv W':=by
 refine⟨⟨λi x hx=> ?_,h.words.le,h.words.cap,h.words.len,h.words.u64⟩,h.sv_,hb _ _ h.hbw rfl h.lt.2.1 h.ne.2.1 h.nt.2.1,hb _ _ h.hbg rfl h.lt.2.2.1 h.ne.2.2 h.nt.2.2,λhn=> ?_,⟨h.lt.1,h.lt.2.1,h.lt.2.2.1,Z4Z h.lt.2.2.2 hs⟩,h.ne,h.nt⟩
 ·have hn:ws≠[]:=λe=>Z3M;obtain⟨ob,ho,hc⟩:=h.gb hn;have h2:=hb _ _ ho hc h.lt.1 h.ne.1 h.nt.1;rw[<-h.words.at_ i x hx]
  grind [World.cell?_of_block]
 ·obtain⟨ob,ho,hc⟩:=h.gb hn;exact⟨ob,hb _ _ ho hc h.lt.1 h.ne.1 h.nt.1,hc⟩
def Stat6.grown(h:Stat6 ws g o cap sv bw bg base bl bt gv W)(hg:W.grownBy W' bt):Stat6 ws g o cap sv bw bg base bl bt gv W':=
 h.of hg.size λk ob hk _ _ _ hn=>(hg.block k (Zv hk) hn).trans hk
def Stat6.kp(h:Stat6 ws g o cap sv bw bg base bl bt gv W)(hk:KpW bl base W W'):Stat6 ws g o cap sv bw bg base bl bt gv W':=
 h.of hk.size λk ob hk1 hc hlt hne _=>hk.same k ob hk1 hc hne (.inl hlt)
end
def WZ{W W':World}(hb:Below W.heap.size W W')(r:Option Nat):W.grownBy W' r:=⟨hb.os,hb.tape,hb.output,hb.size,λk hk _=>hb.block k hk⟩
def MP{ws:List Int}{g o cap:Nat}:GN ws g o cap .nilFunc [] false none (λt _=>t=0):=by
 intro W a t x hw hg hK hx;refine(DI W ws g o cap hw hg a x hx).mono ?_;rintro e W' ⟨rfl,hb⟩;refine⟨WZ hb none,?_⟩;unfold objR begE
 grind
def Shps.grown{W W':World}{shs:List (Int×Int)}{bs:Nat}{v:Value}{r:Option Nat}(h:Shps W shs bs v)(hg:W.grownBy W' r)(hbs:some bs≠r)(hgb:shs≠[]->∀g o cap,v=.slice (some ⟨g,o,none⟩) shs.length cap->some g≠r):Shps W' shs bs v:=by
 refine⟨(hg.block _ (Zv h.box) hbs).trans h.box,?_⟩;obtain⟨g,o,cap,rfl,h1,h2,h3,h4⟩|⟨a,cap,rfl,rfl⟩:=h.val
 ·refine .inl ⟨g,o,cap,rfl,h1,h2,Z4F h3 hg.size,λi x hx=> ?_⟩;have hb:=hg.block g h3 (hgb (λe=>Z3M) _ _ _ rfl)
  grind [World.cell?_of_block,trans]
 simp
def KOld(shs:List (Int×Int))(bt bs:Nat)(v:Value)(t:Nat)(W:World):Prop:=W.heap[bt]?=some (.cells #[.int .i64 t] 3 (0,0))/\Shps W shs bs v/\t<=shs.length
def MQ{ws:List Int}{g o cap:Nat}{shs:List (Int×Int)}{bt bs:Nat}{v:Value}(hl:shs.length<=1000000)(hbs:bs≠bt)(hgb:shs≠[]->∀g o cap,v=.slice (some ⟨g,o,none⟩) shs.length cap->g≠bt):
  GN ws g o cap (.func (.func 129) #[] #[.pointer (some ⟨bt,0,none⟩),.pointer (some ⟨bs,0,none⟩)]) shs true (some bt) (KOld shs bt bs v):=by
 intro W a t x hw hg hK hx;obtain⟨hb,hs,ht⟩:=hK;have hbs':some bs≠some bt:=λe=>hbs Z3L;have hgb':shs≠[]->∀g o cap,v=.slice (some ⟨g,o,none⟩) shs.length cap->some g≠some bt:=λhn g o cap e e2=>hgb hn g o cap e Z3L;have hsB:∀W',Below W.heap.size W W'->Shps W' shs bs v:=λW' hB=>hs.grown (WZ hB none) Z1 (λ_ _ _ _ _=>Z1);have hbB:∀W',Below W.heap.size W W'->W'.heap[bt]?=some (.cells #[.int .i64 t] 3 (0,0)):=λW' hB=>(hB.block _ (Zv hb)).trans hb;by_cases ha:(adr x).2=0
 ·unfold objR;rw[if_pos ⟨rfl,ha⟩];cases hxs:shs[t]? with
  |none=>
   have:t=shs.length:=by have:=Z74.1 hxs;omega
   subst this;refine(UC W _ ws g o cap hw hg a x hx ha λW' hB=>Hj W' shs bt bs v hl (hsB W' hB) (hbB W' hB)).mono ?_;rintro e W' ⟨rfl,hB⟩;exact⟨WZ hB _,rfl⟩
  |some s=>
   simp only;cases hok:Zo s.1 s.2
   ·refine(UC W _ ws g o cap hw hg a x hx ha λW' hB=>Hi W' shs bt bs t v s hl (hsB W' hB) (hbB W' hB) hxs hok).mono ?_;rintro e W' ⟨rfl,hB⟩;exact⟨WZ hB _,Z1⟩
   ·refine(Ld W _ ws g o cap hw hg a x hx ha bt _ s.1 s.2 (Zv hb) λW' hB=>Nc W' shs bt bs t v s hl (hsB W' hB) (hbB W' hB) hxs hok hbs (hgb (λe=>Z3M))).mono ?_;rintro e W' ⟨rfl,hG,hO⟩;have hlt:=(Z4v.1 hxs).1;refine⟨hG,?_⟩;simp only[Z5b];exact⟨trivial,hO,hs.grown hG hbs' hgb',Z0⟩
 ·refine(Le W _ _ ws g o cap hw hg a x hx ha).mono ?_;rintro e W' ⟨rfl,hB⟩;refine⟨WZ hB _,?_⟩;unfold objR begE;rw[if_neg (λhc=>ha hc.2)];by_cases hu:(unpk x).2.2=0
  ·simp only[hu,Z5b];exact⟨trivial,hbB W' hB,hsB W' hB,ht⟩
  simp_all
end Vm
end
section
namespace Vm
open Go Go.Proofs Go.RowKit Go.Shelf
def ON(bl:Nat)(W:World):Prop:=∀k,rowB W bl=some k->k<W.heap.size
def QF{A B C:World}{r:Option Nat}(h:A.grownBy B r)(k:B.grownBy C r):A.grownBy C r:=
 ⟨k.os.trans h.os,k.tape.trans h.tape,k.output.trans h.output,Z4Z h.size k.size,λi hi hn=>(k.block i (Z4F hi h.size) hn).trans (h.block i hi hn)⟩
def Do(ws:List Int)(shs:List (Int×Int))(old:Bool){a t t':Nat}{x:Int}{ob:Ob}(hx:ws[a]?=some x)(ho:objR shs old a t x=some (ob,t')){f:Nat}{pre:List Ob}:
  Xe ws shs old (f+1) a t pre=if(ws.length:Int)<a+1+ob.size then([],2)else if ZO ((ws.drop (a+1)).take ob.size.toNat) ob.gone ob.ptrs 0=false then([],3)else Xe ws shs old f (a+1+ob.size.toNat) t' (pre++[ob]):=by
 simp_all[Xe]
def E2(n:Nat){w:World}{ws:List Int}{g o cap bw bg base bl:Nat}{bt:Option Nat}{sv gv:Value}{shs:List (Int×Int)}{old:Bool}{K:Nat->World->Prop}(hst:Stat6 ws g o cap sv bw bg base bl bt gv w)
  (hbl:bl<base) (hltb:some bl≠bt) (hbeg:GN ws g o cap gv shs old bt K) (hK0:K 0 w) (hKB:∀t W W',K t W->Below W.heap.size W W'->K t W') (hKK:∀t W W',K t W->KpW bl base W W'->K t W'):
  SeqP Fence.wide n Sol.prog 132 #[.pointer (some ⟨bw,0,none⟩),.pointer (some ⟨bg,0,none⟩)] (λob:Ob=> #[obA ob]) (KpW bl base) (endS ws shs old K) (endP ws shs old) ws.length bt (ON bl) w:=by
 intro l J W hW hJx hJ hY h0;refine callsIn_of_wp Sol.func132 rfl trivial ?_ rfl;simp only[Try.ntmps132,Z63,Z5B,Z6j,Nat.reduceAdd,Nat.reduceSub,Z72,Z73,Z7o,Z79,Z5G,Z5M];have HS0:=Z4O (hst.grown (WZ hW bt));have HK0:=Z4O (hKB 0 w W hK0 hW);have HJ0:=Z4O h0;clear h0
 gi_wp2
 gi_loopw [4] (λp wr=>∃(a t f:Nat) (pre:List Ob),p=.int .i64 a/\Hid (J pre wr/\K t wr/\Stat6 ws g o cap sv bw bg base bl bt gv wr/\ws.length<f+a/\0<f/\a<=ws.length/\pre.length<=a/\Zs ws shs old=Xe ws shs old f a t pre))
  (λp _=>ws.length- (intOf p).toNat)
 case atStart=>exact⟨0,0,ws.length+1,[],rfl,Z4O ⟨HJ0.out,HK0.out,HS0.out,Z0,Z0,Z0,Z1,rfl⟩⟩
 case round=>
  obtain⟨a,t,f,pre,rfl,HI⟩:=hrel;have hst':=HI.out.2.2.1;have hsv:=hst'.sv_;have c1:wr.cell? ⟨bw,0,none⟩=some sv:=by rw[Z4Q _ _ _ _ _ _ hst'.hbw];rfl
  have c2:wr.cell? ⟨bg,0,none⟩=some gv:=by rw[Z4Q _ _ _ _ _ _ hst'.hbg];rfl
  have hlen:=hst'.words.len;clear hst';by_cases hlt:a<ws.length
  ·obtain⟨x,hx⟩:∃x,ws[a]?=some x:=⟨_,Z4u hlt⟩;obtain rfl:sv=.slice (some ⟨g,o,none⟩) ws.length cap:=hsv.resolve_right (λh=>Z3M);clear hsv;have hlt':((a:Int)<ws.length)=True:=eq_true Z0;have hb:=hbeg wr a t x HI.out.2.2.1.words (by have:=HI.out.2.2.1.lt;omega) HI.out.2.1 hx;cases ho:objR shs old a t x with
   |none=>
    rw[ho]at hb;have HX:=Z4O hb;clear hb
    gi_wp2
    refine⟨trivial,λh=>Z3V,(Z7P.2 HX.out).mono ?_⟩;rintro e w1 ⟨hg1,rfl⟩;have HG1:=Z4O hg1;clear hg1
    gi_wp2
    refine⟨rfl,.inr ⟨_,pre,rfl,⟨3,.inr rfl,rfl,?_⟩,hJ _ _ _ _ HI.out.1 HG1.out (λr e=>e.symm)⟩⟩;obtain⟨_,_,_,hf,hf0,_,_,hR⟩:=HI.out;cases f with
    |zero=>omega
    |succ f=>
     simp_all[Xe]
   |some q=>
    obtain⟨ob,t'⟩:=q;rw[ho]at hb;have HX:=Z4O hb;clear hb;obtain⟨hsh,hat⟩:=Ud ho
    gi_wp2
    refine⟨trivial,λh=>Z3V,(Z7P.2 HX.out).mono ?_⟩;rintro e w1 ⟨hg1,rfl,hk1⟩;have HG1:=Z4O hg1;have HK1:=Z4O hk1;have hS1:=HI.out.2.2.1.grown hg1;have HS1:=Z4O hS1
    have e1:∀O,(w1.alloc O).cell? ⟨bw,0,none⟩=some (.slice (some ⟨g,o,none⟩) ws.length cap):=λO=>by
     rw[Z5K _ _ _ (Zv hS1.hbw),Z4Q _ _ _ _ _ _ hS1.hbw];rfl
    have hgO:wr.grownBy (w1.alloc (.cells #[.int .i64 a,.int .i64 ob.size,.int .i64 ob.ptrs,.bool ob.gone,.int .u64 ob.target] 59)) bt:=QF hg1 (Z5U _ _ _);have hSO:=Z4O (HI.out.2.2.1.grown hgO);have hh:=Ep (w1.alloc (.cells #[.int .i64 a,.int .i64 ob.size,.int .i64 ob.ptrs,.bool ob.gone,.int .u64 ob.target] 59)) ws g o cap hSO.out.words (by have:=hSO.out.lt;omega) ob a hat hlt hsh;unfold obA at hh;rw[hat]at hh;have HGO:=Z4O hgO;have HHold:=Z4O hh;have hstep:∀f pre,Xe ws shs old (f+1) a t pre=_:=λf pre=>Do ws shs old hx ho (f:=f) (pre:=pre);have HST:=Z4O hstep;clear hg1 hk1 hS1 hgO hh hstep hx;unfold obA
    gi_wp2
    refine⟨trivial,λh=>Z3V,(Z7P.2 HHold.out).mono ?_⟩;rintro e w2 ⟨rfl,hb2⟩;have hG2:wr.grownBy w2 bt:=QF HGO.out (WZ hb2 bt);have HG2:=Z4O hG2;have HB2:=Z4O hb2;unfold Hl;by_cases h1:(ws.length:Int)<ob.at_+1+ob.size
    ·rw[if_pos h1];rw[hat]at h1;clear hb2 hG2
     gi_wp2
     refine⟨rfl,.inr ⟨_,pre,rfl,⟨2,.inl rfl,rfl,?_⟩,hJ _ _ _ _ HI.out.1 HG2.out (λr e=>e.symm)⟩⟩;obtain⟨_,_,_,hf,hf0,_,_,hR⟩:=HI.out;obtain⟨f,rfl⟩:∃f',f=f'+1:=⟨f-1,Z0⟩;rw[hR,HST.out,if_pos h1]
    ·rw[if_neg h1];by_cases h2:ZO ((ws.drop (ob.at_.toNat+1)).take ob.size.toNat) ob.gone ob.ptrs 0=false
     ·rw[if_pos h2];rw[hat]at h1 h2;clear hb2 hG2
      gi_wp2
      refine⟨rfl,.inr ⟨_,pre,rfl,⟨3,.inr rfl,rfl,?_⟩,hJ _ _ _ _ HI.out.1 HG2.out (λr e=>e.symm)⟩⟩;obtain⟨_,_,_,hf,hf0,_,_,hR⟩:=HI.out;obtain⟨f,rfl⟩:∃f',f=f'+1:=⟨f-1,Z0⟩;rw[hR,HST.out,if_neg Z0];simp_all
     ·rw[if_neg h2];rw[hat]at h1 h2;simp only[Z5f]at h2;have HH2:=Z4O (And.intro h1 h2);have hJ2:=hJ _ _ _ _ HI.out.1 hG2 (λr e=>e.symm);have HJ2:=Z4O hJ2;have HS2:=Z4O (HI.out.2.2.1.grown hG2);have hbx:w2.heap[w1.heap.size]?=some (.cells #[.int .i64 a,.int .i64 ob.size,.int .i64 ob.ptrs,.bool ob.gone,.int .u64 ob.target] 59 (0,0)):=(hb2.block _ Z1).trans (Z5c w1 _);have HBX:=Z4O hbx;obtain⟨fn,tmps,assign,body,hy,hR⟩:=hY pre ob w2 hJ2 (by have:=HI.out.2.2.2.2.2.2.1;omega);unfold obA at hy;rw[hat]at hy;have d0:w2.cell? ⟨w1.heap.size,0,none⟩=some (.int .i64 a):=Z4a;have d1:w2.cell? ⟨w1.heap.size,1,none⟩=some (.int .i64 ob.size):=Z4a;have d2:w2.cell? ⟨w1.heap.size,2,none⟩=some (.int .i64 ob.ptrs):=Z4a;have d3:w2.cell? ⟨w1.heap.size,3,none⟩=some (.bool ob.gone):=Z4a;have d4:w2.cell? ⟨w1.heap.size,4,none⟩=some (.int .u64 ob.target):=Z4a;clear hb2 hG2 hJ2 hbx
      gi_wp2
      refine⟨λh=>Z3V,hR.mono ?_⟩;rintro e W3 ⟨rfl,hJ3,hk3⟩;have HJ3:=Z4O hJ3;have HK3:=Z4O hk3
      have hrow2:rowB w2 bl≠some w1.heap.size:=by
       intro e;have hlb:bl<wr.heap.size:=by have:=HI.out.2.2.1.lt.2.2.2;omega
       have:rowB w2 bl=rowB wr bl:=by
        unfold rowB;rw[Z5j (a:=⟨bl,0,none⟩) (HG2.out.block bl hlb hltb)]
       rw[this]at e;have:=hJx _ _ HI.out.1 _ e;have:=HG1.out.size;omega
      have hbx3:=hk3.same _ _ HBX.out rfl (by have:=HI.out.2.2.1.lt.2.2.2;have:=HG1.out.size;omega) (.inr hrow2);have f1:W3.cell? ⟨w1.heap.size,1,none⟩=some (.int .i64 ob.size):=by rw[Z4Q _ _ _ _ _ _ hbx3];rfl
      have hS3:=HS2.out.kp hk3;have hK2:K t' w2:=hKB _ _ _ HK1.out (((Z5i _ _).alloc (Z4A _) _).trans (HB2.out.mono Z1));have hK3:=hKK _ _ _ hK2 hk3;have HS3:=Z4O (And.intro hS3 hK3);obtain⟨m,hm⟩:∃m:Nat,ob.size=m:=⟨ob.size.toNat,by have:=(Zc.1 hsh).1;omega⟩;rw[hm]at f1;have hm5:(m:Int)<=255:=by have:=(Zc.1 hsh);omega
      have q1:IntKind.i64.wrap (1+(m:Int))=((1+m:Nat):Int):=by rw[Z7 _ Z0 Z0];omega
      have q2:IntKind.i64.wrap ((a:Int)+((1+m:Nat):Int))=((a+(1+m):Nat):Int):=by rw[Z7 _ Z0 Z0];omega
      clear hJ3 hk3 hbx3 hS3 hK2 hK3 hrow2;clear h2
      gi_wp2
      obtain⟨_,_,_,hf,hf0,hal,hpl,hR⟩:=HI.out;obtain⟨f,rfl⟩:∃f',f=f'+1:=⟨f-1,Z0⟩;rw[HST.out,if_neg Z0,if_neg HH2.out.2]at hR;have hle:a+1+m<=ws.length:=Z0;refine⟨⟨a+(1+m),t',f,pre++[ob],Z1,Z4O ⟨HJ3.out,HS3.out.2,HS3.out.1,Z0,Z0,Z0,Z3N,?_⟩⟩,by grind [intOf]⟩
      grind
  ·have hnlt:((a:Int)<ws.length)=False:=Z8y Z0
   have HE:Hid (endS ws shs old K pre wr):=Z4O (by
    obtain⟨_,hK,_,hf,hf0,_,_,hR⟩:=HI.out;refine⟨t,hK,?_⟩;cases f with
    |zero=>omega
    |succ f=>
     simp_all[Xe,Z5w])
   obtain⟨sa,sc,rfl⟩:∃sa sc,sv=.slice sa ws.length sc:=by
    grind
   clear hsv
   gi_wp2
   go_end0
   exact .inl ⟨_,pre,rfl,HE.out,HI.out.1⟩
end Vm
namespace Vm
open Go Go.Proofs Go.RowKit Go.Shelf
def E3(w:World)(sv gv:Value)(hs:∃a n c,sv=.slice a n c)(hg:gv=.nilFunc\/∃f vs,gv=.func (.func f) #[] vs):
  Calls Sol.prog 131 #[sv,gv] w λe w'=>e=.returned (.func (.func 132) #[] #[.pointer (some ⟨w.heap.size,0,none⟩),.pointer (some ⟨w.heap.size+1,0,none⟩)])/\
   w'=(w.alloc (.cells #[sv] 35)).alloc (.cells #[gv] 190):=by
 have hmf:∀(fn:Go.Fn) (first cap:Array Value) (w:World),(Instr.makeFunc fn first cap).run Sol.prog w=.ok (.func fn first cap) w:=λ_ _ _ _=>rfl;obtain⟨a,n,c,rfl⟩:=hs;obtain rfl|⟨f,vs,rfl⟩:=hg
 ·go_enter Sol.func131,Try.ntmps131;go_wp2;exact Z5X (results_tmp rfl _ _ _) rfl ⟨rfl,rfl⟩
 ·go_enter Sol.func131,Try.ntmps131;go_wp2;exact Z5X (results_tmp rfl _ _ _) rfl ⟨rfl,rfl⟩
def m9(w:World):Sem.run Sol.prog (binOp .neq 20 .nilIface .nilIface) w=.ok (.bool false) w:=Z4r
def n8(w:World)(T:TypeId)(v:Value):Sem.run Sol.prog (binOp .neq 20 (.iface T v) .nilIface) w=.ok (.bool true) w:=Z4r
def Z2I(w:World)(x:Int):Sem.run Sol.prog (Instr.typeAssert (.iface 189 (.agg #[.int .i64 x])) 20 189 true) w=.ok (.tuple #[.agg #[.int .i64 x],.bool true]) w:=Z4r
def C9(n:Nat)(p q:Addr)(w:World):
  CallsDIn Fence.wide n Sol.prog 130 #[.pointer (some p),.pointer (some q)] .returning w λe u' w'=>e=.returned (.tuple #[])/\u'=.returning/\w'=w:=by
 have h1:=m9;refine callsDIn_of_wpSIn Sol.func130 rfl trivial λc₀ cs hu=> ?_;simp only[Try.ntmps130,Z63,Z5B,Z6j,Nat.reduceAdd,Nat.reduceSub,Z72,Z73,Z7o,Z79,Z5G,Z5M];apply wpSIn_seq;apply wpSIn_region;simp[wpOpsSIn,go_sem,recoverD,hu,Exit.thenS];refine wpSIn_of_wpIn rfl ?_
 gi_wp2
 cases c₀;simp_all [bodyPostS,results,Try.results130]
def Qp(n:Nat)(bp bq:Nat)(x:Int)(w:World)(vp vq:Value)(hp:Boxed w bp 55 vp)(hq:Boxed w bq 32 vq)(hne:bp≠bq):
  CallsDIn Fence.wide n Sol.prog 130 #[.pointer (some ⟨bp,0,none⟩),.pointer (some ⟨bq,0,none⟩)] (.panicking (XD x)) w λe u' w'=>
   e=.returned (.tuple #[])/\u'=.panicking [{v:=.iface 189 (.agg #[.int .i64 x]),recovered:=true}]/\
   Boxed w' bp 55 (.slice none 0 0)/\Boxed w' bq 32 (.int .i64 x)/\(w.heap.size<=w'.heap.size/\∀k,k<w.heap.size->k≠bp->k≠bq->w'.heap[k]?=w.heap[k]?)/\w'.os=w.os/\w'.tape=w.tape/\w'.output=w.output:=by
 have h1:=n8;have h2:=Z2I;have p1:=(hp.alloc (.cells #[.int .i64 x] 189)).cell;have p2:=(hp.alloc (.cells #[.int .i64 x] 189)).frozen;have q1:=(hq.alloc (.cells #[.int .i64 x] 189)).cell;have q2:=(hq.alloc (.cells #[.int .i64 x] 189)).frozen;have p3:=hp.cell;have p4:=hp.frozen;have q3:=hq.cell;have q4:=hq.frozen;have l1:=hp.lt;have l2:=hq.lt;have n1:¬bp=bq:=hne;have n2:¬bq=bp:=λe=>hne e.symm;have n3:¬bp=w.heap.size:=Z0;have n4:¬w.heap.size=bp:=Z0;have n5:¬bq=w.heap.size:=Z0;have n6:¬w.heap.size=bq:=Z0;have HP:=Z4O (And.intro hp hq);clear hp hq hne;refine callsDIn_of_wpSIn Sol.func130 rfl trivial λc₀ cs hu=> ?_;simp only[Try.ntmps130,Z63,Z5B,Z6j,Nat.reduceAdd,Nat.reduceSub,Z72,Z73,Z7o,Z79,Z5G,Z5M];apply wpSIn_seq;apply wpSIn_region;simp[wpOpsSIn,go_sem,recoverD,hu,XD,Exit.thenS];refine wpSIn_of_wpIn rfl ?_
 gi_wp2
 gi_region
 all_goals gi_wp2
 obtain⟨hp,hq⟩:=HP.out;have b1:Boxed ((w.setCell ⟨bp,0,none⟩ (.slice none 0 0)).setCell ⟨bq,0,none⟩ (.int .i64 x)) bp 55 (.slice none 0 0):=(Z4Y _ ⟨bq,0,none⟩ _ bp n1).trans (hp.set _);have b2:Boxed ((w.setCell ⟨bp,0,none⟩ (.slice none 0 0)).setCell ⟨bq,0,none⟩ (.int .i64 x)) bq 32 (.int .i64 x):=Boxed.set _ (show Boxed (w.setCell ⟨bp,0,none⟩ (.slice none 0 0)) bq 32 vq from(Z4Y _ ⟨bp,0,none⟩ _ bq n2).trans hq);refine⟨rfl,_,rfl,_,by simp[results,Try.results130],rfl,rfl,b1.alloc _,b2.alloc _,⟨?_,λk hk k1 k2=> ?_⟩,rfl,rfl,rfl⟩
 ·simp
 ·show(World.alloc _ _).heap[k]?=_
  grind [Below.heap_alloc,World.setCell,Below.heap_setCell]
end Vm
namespace Vm
open Go Go.Proofs Go.RowKit Go.Shelf
def obC(ob:Ob):List Value:=[.int .i64 ob.at_,.int .i64 ob.size,.int .i64 ob.ptrs,.bool ob.gone,.int .u64 ob.target]
def obsC(l:List Ob):List Value:=l.flatMap obC
def Fp(l:List Ob)(x:Ob):obsC (l++[x])=obsC l++obC x:=by simp[obsC]
structure WIv (w:World) (bt:Option Nat) (pre:List Ob) (W:World):Prop where
 row:∃v,Boxed W w.heap.size 55 v/\W.ownsRow (w.heap.size+4) 59 5 v pre.length (obsC pre)
 e:Boxed W (w.heap.size+1) 32 (.int .i64 0)
 gr:w.grownBy W bt
 size:w.heap.size+4<=W.heap.size
def Xs{w X Y:World}{bt row:Option Nat}(h:w.grownBy X bt)(k:X.grownBy Y row)(hr:∀r,row=some r->some r=bt\/w.heap.size<=r):w.grownBy Y bt:=
 ⟨k.os.trans h.os,k.tape.trans h.tape,k.output.trans h.output,Z4Z h.size k.size,λi hi hn=>
  (k.block i (Z4F hi h.size) (λe=>Z3L)).trans (h.block i hi hn)⟩
theorem za{W:World}{b:Nat}{t:TypeId}{v:Value}(h:Boxed W b t v):rowB W b=v.ownBlock:=by
 unfold rowB;rw[h.cell];rfl
def WIv.rowIn{w:World}{bt:Option Nat}{pre:List Ob}{W:World}(h:WIv w bt pre W):ON w.heap.size W:=by
 obtain⟨v,hv,hr⟩:=h.row;intro k hk;rw[za hv]at hk;exact(hr.lt k hk).2
def WIv.own{w:World}{bt:Option Nat}(hbt:∀r,bt=some r->r<w.heap.size):OwnP bt (w.heap.size+4) (WIv w bt):=by
 intro s X Y row h hg hr
 have hne:∀k,w.heap.size<=k->k<w.heap.size+4->some k≠row:=by
  intro k h1 h2 e;obtain e2|⟨e2,_⟩:=hr k e.symm
  ·grind
  ·omega
 obtain⟨v,hv,hrow⟩:=h.row;refine⟨⟨v,hv.kept hg (hne _ (Z4A _) Z0),hrow.kept hg ?_⟩,h.e.kept hg (hne _ Z0 Z0),Xs h.gr hg λr e=>(hr r e).imp id λh2=>Z0,Z4Z h.size hg.size⟩;cases hb:v.ownBlock with
 |none=>simp
 |some b=>
  refine .inr λe=> ?_;have h1:=hrow.lt b hb;obtain e2|⟨_,o,ho,hc⟩:=hr b e.symm
  ·grind
  ·obtain⟨rfl,_⟩|⟨g,cap,cur,rfl,_,hgb,_⟩:=hrow.2
   ·simp[Value.ownBlock]at hb
   ·obtain rfl:g=b:=by grind [Value.ownBlock]
    rw[hgb]at ho;cases ho;cases hc
def WIv.appended{w W w1:World}{bt:Option Nat}{pre:List Ob}{x:Ob}{v v':Value}{tmp:Obj}(hbt:∀r,bt=some r->r<w.heap.size)(h:WIv w bt pre W)(hv:Boxed W w.heap.size 55 v)
  (hrow:W.ownsRow (w.heap.size+4) 59 5 v pre.length (obsC pre)) (hown':w1.ownsRow (w.heap.size+4) 59 5 v' (pre.length+1) (obsC pre++obC x))
  (hgrow:(W.alloc tmp).grownBy w1 v.ownBlock) (hat:v'.ownBlock=v.ownBlock\/v'.ownBlock=some (W.alloc tmp).heap.size):
  Boxed w1 w.heap.size 55 v/\KeepsFrom (w.heap.size+4) W (w1.setCell ⟨w.heap.size,0,none⟩ v')/\KpW w.heap.size (w.heap.size+4) W (w1.setCell ⟨w.heap.size,0,none⟩ v')/\WIv w bt (pre++[x]) (w1.setCell ⟨w.heap.size,0,none⟩ v'):=by
 have hsz:=h.size;obtain⟨hv1,hv2,hr2,hk2,hb2⟩:=hv.appended (by decide) (qa hrow (B':=w.heap.size) Z0) Z0 (Z4A _) (qa hown' (B':=w.heap.size) Z0) hgrow;have hlow:∀b,v.ownBlock=some b->w.heap.size+4<=b:=λb hb=>(hrow.lt b hb).1
 have hrow2:(w1.setCell ⟨w.heap.size,0,none⟩ v').ownsRow (w.heap.size+4) 59 5 v' (pre.length+1) (obsC pre++obC x):=hown'.kept (Z7v w1 w.heap.size v') (by
  cases hb:v'.ownBlock with
  |none=>simp
  |some b=>exact .inr λe=>by have h1:=(hown'.lt b hb).1;grind)
 refine⟨hv1,hk2.from _,⟨hk2.size,λk o hk hc hn hr=> ?_,λk hk e=> ?_⟩,⟨v',hv2,?_⟩,?_,?_,Z4Z hsz hk2.size⟩
 ·rw[Z4Y _ _ _ _ hn,hgrow.block k (by have:=Zv hk;simp;omega) (λe=> ?_),Z4U _ _ _ (Zv hk),hk]
  grind [za,trans]
 ·rw[za hv2]at e;rw[za hv];obtain hat|hat:=hat
  ·simp_all
  ·rw[hat]at e;simp at e;omega
 ·simp_all[Z5N,Fp]
 ·have he1:Boxed w1 (w.heap.size+1) 32 (.int .i64 0):=(h.e.alloc tmp).kept hgrow (λe=>Z3L);exact(Z4Y _ _ _ _ Z1).trans he1
 ·refine Xs (Xs (Xs h.gr (Z5U W tmp none) Z1) hgrow λr e=>.inr ?_) (Z7v w1 w.heap.size v') λr e=>.inr ?_
  ·grind
  simp_all
def KpW.alloc{bl base:Nat}{W:World}(o:Obj)(hbl:bl<W.heap.size):KpW bl base W (W.alloc o):=by
 refine⟨Z1,λk o2 hk _ _ _=>(Z4U _ _ _ (Zv hk)).trans hk,λk _ hr=> ?_⟩;simp_all[rowB,Z5K]
end Vm
namespace Vm
open Go Go.Proofs Go.RowKit Go.Shelf
attribute [local go_sem] Oper.semAt_some
def Z24:(Sol.prog.info? 59).map (λi=>(i.zero,i.size,i.bytes))=some (some (.agg #[.int .i64 0,.int .i64 0,.int .i64 0,.bool false,.int .u64 0]),5,40):=Z2
def unO:Sol.prog.underlying 55=some (.slice 59):=Z2
def Ca(w:World)(a b c d e:Value)(t:TypeId):∀j u,[a,b,c,d,e][j]?=some u->(w.alloc (.cells #[a,b,c,d,e] t)).cell? ((⟨w.heap.size,0,none⟩:Addr).add j)=some u:=by
 intro j u h;have:=Z4Q _ _ j _ _ _ (Z5c w (.cells #[a,b,c,d,e] t))
 grind [add,Addr.add]
def DA(w:World)(ws:List Int)(shs:List (Int×Int))(old:Bool)(bt:Option Nat)(K:Nat->World->Prop)(e:Ending)(W:World):Prop:=
 ∃v n xs,e=.returned (.tuple #[v,.int .i64 n])/\w.grownBy W bt/\W.ownsRow (w.heap.size+4) 59 5 v xs.length (obsC xs)/\((n=0/\endS ws shs old K xs W)\/((n=2\/n=3)/\xs=[]/\Zs ws shs old=([],n)))
def qR{w:World}{ws:List Int}{g o cap:Nat}{bt:Option Nat}{sv gv:Value}{shs:List (Int×Int)}{old:Bool}{K:Nat->World->Prop}(hw:Words w ws g o cap)
  (hsv:sv=.slice (some ⟨g,o,none⟩) ws.length cap\/(ws=[]/\∃a c,sv=.slice a 0 c)) (hg:(ws≠[]->g<w.heap.size)/\g<w.heap.size+4/\g≠w.heap.size) (hgv:gv=.nilFunc\/∃f vs,gv=.func (.func f) #[] vs)
  (hbt:∀r,bt=some r->r<w.heap.size) (hgt:some g≠bt) (hbeg:GN ws g o cap gv shs old bt K) (hK0:K 0 w)
  (hKG:∀t A B row,K t A->A.grownBy B row->(∀r,row=some r->w.heap.size<=r)->K t B)
  (hKK:∀bl base t A B,w.heap.size<=bl->w.heap.size<=base->K t A->KpW bl base A B->K t B):
  Calls Sol.prog 128 #[sv,gv] w (DA w ws shs old bt K):=by
 refine(Z7P (n:=5)).1 ?_;have hmf:∀(fn:Go.Fn) (first cap:Array Value) (w:World),(Instr.makeFunc fn first cap).run Sol.prog w=.ok (.func fn first cap) w:=λ_ _ _ _=>rfl
 have hsf:∃a n c,sv=.slice a n c:=by
  obtain rfl|⟨_,a,c,rfl⟩:=hsv
  ·simp
  ·simp
 refine callsIn_of_wp_marks Sol.func128 rfl trivial ?_ rfl;simp only[Try.ntmps128,Z63,Z5B,Z6j,Nat.reduceAdd,Nat.reduceSub,Z72,Z73,Z7o,Z79,Z5G,Z5M];have he:=λW=>E3 W sv gv hsf hgv
 gi_wp2
 refine⟨trivial,(Z7P.2 (he _)).mono ?_⟩;rintro e w1 ⟨rfl,rfl⟩
 gi_wp2
 have hnx:∀b:Nat,b<w.heap.size->((((w.alloc (Obj.cells #[.slice none 0 0] 55)).alloc (.cells #[.int .i64 0] 32)).alloc (.cells #[sv] 35)).alloc (.cells #[gv] 190)).heap[b]?=w.heap[b]? :=λb hb=>by
  grind [Below.heap_alloc]
 have b0:Boxed ((((w.alloc (Obj.cells #[.slice none 0 0] 55)).alloc (.cells #[.int .i64 0] 32)).alloc (.cells #[sv] 35)).alloc (.cells #[gv] 190)) w.heap.size 55 (.slice none 0 0):=(((Boxed.new w _ _).alloc _).alloc _).alloc _
 have b1:Boxed ((((w.alloc (Obj.cells #[.slice none 0 0] 55)).alloc (.cells #[.int .i64 0] 32)).alloc (.cells #[sv] 35)).alloc (.cells #[gv] 190)) (w.heap.size+1) 32 (.int .i64 0):=by
  have:=((Boxed.new (w.alloc (Obj.cells #[.slice none 0 0] 55)) 32 (.int .i64 0)).alloc (.cells #[sv] 35)).alloc (.cells #[gv] 190);rwa[World.size_alloc]at this
 have b2:Boxed ((((w.alloc (Obj.cells #[.slice none 0 0] 55)).alloc (.cells #[.int .i64 0] 32)).alloc (.cells #[sv] 35)).alloc (.cells #[gv] 190)) (w.heap.size+2) 35 sv:=by
  have:=(Boxed.new ((w.alloc (Obj.cells #[.slice none 0 0] 55)).alloc (.cells #[.int .i64 0] 32)) 35 sv).alloc (.cells #[gv] 190);simp_all
 have b3:Boxed ((((w.alloc (Obj.cells #[.slice none 0 0] 55)).alloc (.cells #[.int .i64 0] 32)).alloc (.cells #[sv] 35)).alloc (.cells #[gv] 190)) (w.heap.size+3) 190 gv:=by
  have:=Boxed.new (((w.alloc (Obj.cells #[.slice none 0 0] 55)).alloc (.cells #[.int .i64 0] 32)).alloc (.cells #[sv] 35)) 190 gv;simp_all
 have hgr:w.grownBy ((((w.alloc (Obj.cells #[.slice none 0 0] 55)).alloc (.cells #[.int .i64 0] 32)).alloc (.cells #[sv] 35)).alloc (.cells #[gv] 190)) bt:=⟨rfl,rfl,rfl,Z3N,λk hk _=>hnx k hk⟩;have hsz:((((w.alloc (Obj.cells #[.slice none 0 0] 55)).alloc (.cells #[.int .i64 0] 32)).alloc (.cells #[sv] 35)).alloc (.cells #[gv] 190)).heap.size=w.heap.size+4:=Z1;generalize hW0:(((w.alloc (Obj.cells #[.slice none 0 0] 55)).alloc (.cells #[.int .i64 0] 32)).alloc (.cells #[sv] 35)).alloc (.cells #[gv] 190)=W0 at*
 have hst:Stat6 ws g o cap sv (w.heap.size+2) (w.heap.size+3) (w.heap.size+4) w.heap.size bt gv W0:=by
  refine⟨⟨λi x hx=> ?_,hw.le,hw.cap,hw.len,hw.u64⟩,hsv,b2,b3,λhn=> ?_,⟨Z0,Z0,Z0,Z0⟩,⟨Z0,Z0,Z0⟩,hgt,?_,?_⟩
  ·rw[<-hw.at_ i x hx]
   grind [World.cell?_of_block]
  ·obtain⟨x,hx⟩:∃x,ws[0]?=some x:=by cases ws with|nil=>simp_all|cons x l=>simp
   have:=hw.at_ 0 x hx;rw[hnx g (hg.1 hn)];unfold World.cell? at this;cases hh:w.heap[g]? with
   |none=>simp_all
   |some ob=>
    refine⟨ob,rfl,?_⟩
    grind [Obj.isCells]
  ·grind
  ·grind
 have hK0':K 0 W0:=hKG 0 w W0 none hK0 ⟨hgr.os,hgr.tape,hgr.output,hgr.size,λk hk _=>hnx k hk⟩ Z1;have hseq:=E2 4 hst Z0 (λe=>Z3L) hbeg hK0' (λt A B hA hB=>hKG t A B none hA ⟨hB.os,hB.tape,hB.output,hB.size,λk hk _=>hB.block k hk⟩ Z1) (λt A B hA hB=>hKK _ _ t A B (Z4A _) Z0 hA hB)
 refine RH rfl Z0 (gf:=132) (lb:=#[.pointer (some ⟨w.heap.size+2,0,none⟩),.pointer (some ⟨w.heap.size+3,0,none⟩)]) rfl trivial (enters_of Sol.func132 Z2 rfl)
  hseq (λr e=>Z3L) KpW.trans (λW l o o' h1 h2 h3 _=>KpW.put o' h2 h3 Z0) (Z5i _ _) (λ_=>rfl)
  (WIv w bt) (hsz▸WIv.own hbt) (λpre W h=>h.rowIn) ⟨⟨_,b0,Z5R _ _ _ _⟩,b1,hgr,Z0⟩ ?hS
  (λx a' W=>∃Bx,w.heap.size+4<=Bx/\W.heap[Bx]?=some (.cells #[.int .i64 x.at_,.int .i64 x.size,.int .i64 x.ptrs,.bool x.gone,.int .u64 x.target] 59 (0,0))/\
   a'= {tmps:=#[sv,gv,undef,undef,.pointer (some ⟨w.heap.size,0,none⟩),.pointer (some ⟨w.heap.size+1,0,none⟩),.pointer (some ⟨Bx,0,none⟩),
    .func (.func 130) #[] #[.pointer (some ⟨w.heap.size,0,none⟩),.pointer (some ⟨w.heap.size+1,0,none⟩)],sv,gv,.func (.func 132) #[] #[.pointer (some ⟨w.heap.size+2,0,none⟩),.pointer (some ⟨w.heap.size+3,0,none⟩)],obA x,undef,undef,undef,undef,undef],defers:=[]})
  ?hAx ?assign ?body ?done ?panic
 case hS=>
  rintro xs X Y row ⟨t,hK,hR⟩ hgr2 hrow;exact⟨t,hKG t X Y row hK hgr2 λr e=>(hrow r e).elim (λe2=>by cases e2) (λe2=>Z0),hR⟩
 case hAx=>
  rintro x a' s X Y row ⟨Bx,hB,hx,ha⟩ hgr2 hrow;refine⟨Bx,hB,(hgr2.block Bx (Zv hx) λe=> ?_).trans hx,ha⟩;obtain e2|⟨_,o2,h2,h3⟩:=hrow Bx e.symm
  ·cases e2
  ·rw[hx]at h2;cases h2;cases h3
 case assign=>
  rintro l pre x W K2 hi hK2;simp only[List.zip_cons_cons,Array.zip,obA]
  gi_wp2
  exact hK2 _ _ ((KeepsOthers.alloc W _).from _) (KpW.alloc _ (by have:=hi.size;omega)) ((WIv.own hbt).alloc _ hi) ⟨W.heap.size,hi.size,Z5c W _,rfl⟩
 case body=>
  rintro l pre x a' W hi ⟨Bx,hBx,hx,rfl⟩ hlen;obtain⟨v,hv,hrow⟩:=hi.row;obtain⟨i0,hin,hz0,hz1,hz2⟩:=info_parts Z24;obtain⟨va,vc,rfl⟩:=Xo hrow;have c1:=hv.cell;have c2:=hv.frozen;have d0:W.cell? ⟨Bx,0,none⟩=some (.int .i64 x.at_):=Z4b;have d1:W.cell? ⟨Bx,1,none⟩=some (.int .i64 x.size):=Z4b;have d2:W.cell? ⟨Bx,2,none⟩=some (.int .i64 x.ptrs):=Z4b;have d3:W.cell? ⟨Bx,3,none⟩=some (.bool x.gone):=Z4b;have d4:W.cell? ⟨Bx,4,none⟩=some (.int .u64 x.target):=Z4b;have hpl:pre.length<=1000000:=Z4Z (Nat.le_of_lt hlen) hw.len;have hszW:=hi.size;have HA:=λtmp w1 v'=>WIv.appended (W:=W) (w1:=w1) (x:=x) (v':=v') (tmp:=tmp) hbt hi hv hrow
  gi_wp2_with (gi_at_builtin;refine wpListIn_append_own_at _ rfl _ _ 55 rfl (w.heap.size+4) 59 i0 _ 5 40 unO hin hz0 hz1 hz2 rfl (by decide) _ _ _ rfl (hrow.alloc _) ⟨W.heap.size,0,none⟩ 1 1 (obC x) rfl rfl (Ca _ _ _ _ _ _ _) (by simp[obC,Value.oneCell']) (by grind [maxLen]) Z0 Z3N ?_;intro v' w1 hown' hgrow _ hat;obtain⟨g',cap',rfl⟩:=ownsRow_succ hown';obtain⟨e1,e2,e3,e4⟩:=HA _ _ _ hown' hgrow hat;have e5:=e1.cell;have e6:=e1.frozen)
  rw[hsz];exact⟨e2,e3,e4⟩
 case done=>
  rintro D xs W hD hS hi hD2;obtain⟨v,hv,hrow⟩:=hi.row;obtain⟨va,vc,rfl⟩:=Xo hrow;have c1:=hv.cell;have c2:=hv.frozen;have c3:=hi.e.cell;have c4:=hi.e.frozen;rw[hsz]at hD
  gi_wp2
  have hDX:((W.setCell ⟨w.heap.size,0,none⟩ (.slice va xs.length vc)).setCell ⟨w.heap.size+1,0,none⟩ (.int .i64 0)).heap[D]?=some (.deferred (some [])):=by
   rw[Z4Y _ _ _ _ Z3L,Z4Y _ _ _ _ Z3L];exact hD2
  have f0:Boxed ((W.setCell ⟨w.heap.size,0,none⟩ (.slice va xs.length vc)).setCell ⟨w.heap.size+1,0,none⟩ (.int .i64 0)) w.heap.size 55 (.slice va xs.length vc):=
   (Z4Y _ _ _ _ Z1).trans (hv.set _)
  have f1:Boxed ((W.setCell ⟨w.heap.size,0,none⟩ (.slice va xs.length vc)).setCell ⟨w.heap.size+1,0,none⟩ (.int .i64 0)) (w.heap.size+1) 32 (.int .i64 0):=
   Boxed.set _ (show Boxed (W.setCell ⟨w.heap.size,0,none⟩ (.slice va xs.length vc)) (w.heap.size+1) 32 (.int .i64 0)from(Z4Y _ _ _ _ Z1).trans hi.e)
  have g1:=Z7v W w.heap.size (.slice va xs.length vc);have g2:=Z7v (W.setCell ⟨w.heap.size,0,none⟩ (.slice va xs.length vc)) (w.heap.size+1) (.int .i64 0);have hlow:=hrow.lt
  have r2:=(hrow.kept g1 (by
   cases hb:(Value.slice va xs.length vc).ownBlock with
   |none=>simp
   |some b=>exact .inr λe=>by have:=(hlow b hb).1;grind)).kept g2 (by
   cases hb:(Value.slice va xs.length vc).ownBlock with
   |none=>simp
   |some b=>exact .inr λe=>by have:=(hlow b hb).1;grind)
  generalize hW2:(W.setCell ⟨w.heap.size,0,none⟩ (.slice va xs.length vc)).setCell ⟨w.heap.size+1,0,none⟩ (.int .i64 0)=W2 at*;have g3:=Z7H W2 D (.deferred none);have f0':Boxed (W2.putObj D (.deferred none)) w.heap.size 55 (.slice va xs.length vc):=(Z5E Z0).trans f0;have f1':Boxed (W2.putObj D (.deferred none)) (w.heap.size+1) 32 (.int .i64 0):=(Z5E Z0).trans f1;have k0:=f0'.cell;have k1:=f1'.cell;refine⟨Z1,.inl ⟨D,_,rfl,run_takeDeferred hDX,?_⟩⟩;refine⟨Z1,.inr ⟨λh=>Z3V,.func 130,_,130, #[.pointer (some ⟨w.heap.size,0,none⟩),.pointer (some ⟨w.heap.size+1,0,none⟩)],rfl,Z4r,λ_ _=>trivial,?_⟩⟩;refine(C9 _ _ _ _).mono ?_;rintro e u' w'' ⟨rfl,rfl,rfl⟩;refine⟨.tuple #[.slice va xs.length vc,.int .i64 0],by simp[results,Try.results128,go_sem,k0,k1],?_⟩;obtain⟨t,hK,hR⟩:=hS;refine⟨_,0,xs,rfl,Xs (Xs (Xs hi.gr g1 λr e=>.inr ?_) g2 λr e=>.inr ?_) g3 λr e=>.inr ?_,ownsRow_putObj r2 _ hDX rfl,.inl ⟨rfl,t,hKG t _ _ _ (hKG t _ _ _ (hKG t _ _ _ hK g1 λr e=> ?_) g2 λr e=> ?_) g3 λr e=> ?_,hR⟩⟩
  all_goals (grind)
 case panic=>
  rintro D chain pre W hD ⟨e,he2,rfl,hWk⟩ hi hD2;rw[hsz]at hD;obtain⟨v,hv,hrow⟩:=hi.row;have g3:=Z7H W D (.deferred none);have f0':Boxed (W.putObj D (.deferred none)) w.heap.size 55 v:=(Z5E Z0).trans hv;have f1':Boxed (W.putObj D (.deferred none)) (w.heap.size+1) 32 (.int .i64 0):=(Z5E Z0).trans hi.e;have hg4:w.grownBy (W.putObj D (.deferred none)) bt:=Xs hi.gr g3 λr e=>.inr Z3L;refine⟨Z1,.inl ⟨D,_,rfl,run_takeDeferred hD2,?_⟩⟩;refine⟨Z1,.inr ⟨λh=>Z3V,.func 130,_,130, #[.pointer (some ⟨w.heap.size,0,none⟩),.pointer (some ⟨w.heap.size+1,0,none⟩)],rfl,Z4r,λ_ _=>trivial,?_⟩⟩;refine(Qp _ w.heap.size (w.heap.size+1) e _ _ _ f0' f1' Z0).mono ?_;rintro e' u' w'' ⟨rfl,rfl,h0,h1,⟨hs2,hk⟩,hos,htape,hout⟩;have k0:=h0.cell;have k1:=h1.cell;refine⟨.tuple #[.slice none 0 0,.int .i64 e],by simp[results,Try.results128,go_sem,k0,k1],?_⟩;refine⟨_,e,[],rfl,⟨hos.trans hg4.os,htape.trans hg4.tape,hout.trans hg4.output,Z4Z hg4.size hs2,λk hk2 hn=> ?_⟩,Z5R _ _ _ _,.inr ⟨he2,rfl,hWk⟩⟩;exact(hk k (Z4F hk2 hg4.size) Z0 Z0).trans (hg4.block k hk2 hn)
end Vm
namespace Vm
open Go Go.Proofs Go.RowKit Go.Shelf
theorem Vf{w:World}{G:Nat->Prop}{k:IntKind}{n:Int}{v:Value}(r:Rd w G (.int k n) v):v=.int k n:=by cases r;rfl
theorem By{w:World}{G:Nat->Prop}{b:Bool}{v:Value}(r:Rd w G (.bool b) v):v=.bool b:=by cases r;rfl
def JI{w:World}{G:Nat->Prop}{ws:List Int}{v:Value}(r:Rd w G (.sl (ws.map vu)) v)(hG:∀b,G b->b<w.heap.size)(hl:ws.length<=1000000)(hu:∀x∈ws,U64 x)(q:Nat):
  ∃g o cap,Words w ws g o cap/\(v=.slice (some ⟨g,o,none⟩) ws.length cap\/(ws=[]/\∃a c,v=.slice a 0 c))/\((ws≠[]->g<w.heap.size)/\(g<w.heap.size\/g=q)):=by
 generalize hL:ws.map vu=L at r;cases r with
 |nil a cap hc=>
  have:ws=[]:=List.map_eq_nil_iff.1 hL;subst this;exact⟨q,0,0,⟨λi x hx=>Z4n,Z1,by grind [maxLen],Z1,Z1⟩,.inr ⟨rfl,a,cap,rfl⟩,λh=>absurd rfl h,.inr rfl⟩
 |sl _ b o cap k vs h1 h2 h3 h4 h5 h6=>
  subst hL;simp only[Z56]at h1 h5⊢;refine⟨b,o,cap,⟨λi x hx=> ?_,h1,h2,hl,hu⟩,.inl rfl,λ_=>hG b h3,.inl (hG b h3)⟩;have hm:(ws.map vu)[i]?=some (vu x):=by rw[Z4M,hx];rfl
  have hk:k=1:=((h4 _ (Z4B hm)).1).symm;subst hk;have hi:i<ws.length:=(Z4v.1 hx).1;rw[h5 i Z0];have:=h6 i (vu x) (by have:=YJ h4 hm 0 Z0;simp_all);rw[Vf this]
def D5{w:World}{G:Nat->Prop}{shs:List (Int×Int)}{v:Value}(r:Rd w G (.sl (shs.map shP)) v)(hG:∀b,G b->b<w.heap.size):
  (∃g o cap,v=.slice (some ⟨g,o,none⟩) shs.length cap/\shs.length<=cap/\cap<=maxLen/\g<w.heap.size/\∀(i:Nat) (x:Int×Int),shs[i]?=some x->w.cell? ⟨g,o+i*2,none⟩=some (.int .i64 x.1)/\w.cell? ⟨g,o+i*2+1,none⟩=some (.int .i64 x.2))\/
  (∃a cap,v=.slice a 0 cap/\shs=[]):=by
 generalize hL:shs.map shP=L at r;cases r with
 |nil a cap hc=>
  simp_all
 |sl _ b o cap k vs h1 h2 h3 h4 h5 h6=>
  subst hL;simp only[Z56]at h1 h5⊢;refine .inl ⟨b,o,cap,rfl,h1,h2,hG b h3,λi x hx=> ?_⟩;have hm:(shs.map shP)[i]?=some (shP x):=by rw[Z4M,hx];rfl
  have hk:k=2:=((h4 _ (Z4B hm)).1).symm;subst hk;have hi:i<shs.length:=(Z4v.1 hx).1;have e0:=h6 (i*2) (vi x.1) (by have:=YJ h4 hm 0 Z0;simp_all);have e1:=h6 (i*2+1) (vi x.2) (by have:=YJ h4 hm 1 Z0;simp_all)
  grind [Vf,Nat.add_assoc]
def yQ{w:World}{G:Nat->Prop}:∀(l:List Ob) (i:Nat) (c:V),(flat (l.map obV))[i]?=some c->Rd w G c ((obsC l).getD i undef)
 | [],i,c,h=>Z3M
 |x::l,i,c,h=>by
  rw[Z4T,Xq]at h;have e:obsC (x::l)=obC x++obsC l:=by simp[obsC]
  rw[e];by_cases hi:i<5
  ·match i,hi with
   |0,_=>simp[obV,V.cells]at h;subst h;exact .int _ _
   |1,_=>simp[obV,V.cells]at h;subst h;exact .int _ _
   |2,_=>simp[obV,V.cells]at h;subst h;exact .int _ _
   |3,_=>simp[obV,V.cells]at h;subst h;exact .bool _
   |4,_=>simp[obV,V.cells]at h;subst h;exact .int _ _
  ·have h2:(flat (l.map obV))[i-5]?=some c:=by
    rw[Z4S Z3M]at h;simpa[obV,V.cells]using h
   have:=yQ (w:=w) (G:=G) l (i-5) c h2
   have hg:(obC x++obsC l).getD i undef=(obsC l).getD (i-5) undef:=by
    simp only[Z71];rw[Z4S (by grind [obC])];simp[obC]
   simp_all
def NJ(l:List Ob):∀x∈l.map obV,V.fits 5 x:=by
 intro x hx;obtain⟨o,_,rfl⟩:=Z4I.1 hx;exact⟨rfl,λc hc=>by simp[obV,V.cells]at hc;obtain rfl|rfl|rfl|rfl|rfl:=hc<;>rfl⟩
def Mh{w:World}{G:Nat->Prop}{B:Nat}{e:TypeId}{v:Value}{l:List Ob}(h:w.ownsRow B e 5 v l.length (obsC l))(hG:∀c,B<=c->c<w.heap.size->G c):Rd w G (.sl (l.map obV)) v:=by
 have hlen:(obsC l).length=l.length*5:=h.1;obtain⟨rfl,h0⟩|⟨g,cap,cur,rfl,hb,hg,hnc,hcm,_⟩:=h.2
 ·have:l=[]:=Z5V.1 h0;subst this;exact .nil _ _ (by grind [maxLen])
 ·have:=Rd.sl (w:=w) (G:=G) (l.map obV) g 0 cap 5 (λi=>(obsC l).getD i undef) Z3M hcm (hG g hb (Zv hg)) (NJ l) (λi hi=>by
    have hi':i< (obsC l).length:=by rw[hlen];simpa using hi
    rw[Z5g,h.cellAt i Z0];simp[hi']) (λi c hc=>yQ l i c hc)
  simp_all
def Z0Q{ws:List Int}{shs:List (Int×Int)}{old:Bool}{K:Nat->World->Prop}{n:Int}{xs:List Ob}{W:World}(h0:shs=[])(h:(n=0/\endS ws shs old K xs W)\/((n=2\/n=3)/\xs=[]/\Zs ws shs old=([],n))):Zs ws shs old=(xs,n):=by
 subst h0;obtain⟨rfl,t,_,h⟩|⟨_,rfl,h⟩:=h
 ·simp_all
 ·exact h
def DB:K4:=by
 intro ws hl hu;refine⟨Z2,λw G vs hG hsz hvs=> ?_⟩;have r0:=hvs 0 _ rfl;obtain⟨⟨l⟩⟩:=vs
 ·simp at hsz
 rename_i v0 l;cases l with
 |cons _ _=>simp at hsz
 |nil=>
  simp at r0;obtain⟨g,o,cap,hw,hsv,hg1,hg2⟩:=JI r0 hG hl hu (w.heap.size+1);have hk:=qR (w:=w) (shs:=[]) (old:=false) (bt:=none) (K:=λt _=>t=0) hw hsv ⟨hg1,Z0,Z0⟩ (.inl rfl) Z1 Z1 MP rfl (λt A B row h _ _=>h) (λbl base t A B _ _ h _=>h)
  obtain⟨sa,sn,sc,rfl⟩:∃a n c,v0=.slice a n c:=by
   obtain rfl|⟨_,a,c,rfl⟩:=hsv
   ·simp
   ·simp
  have HK:=Z4O hk;clear hk hw hsv r0 hvs;go_enter Sol.func117,Try.ntmps117
  go_wp2_with (go_at_call 128;refine HK.out.mono ?_;rintro e w1 ⟨v,n,xs,rfl,hgr,hrow,hE⟩;have HR:=Z4O (And.intro hgr (And.intro hrow hE));clear hgr hrow hE)
  obtain⟨hgr,hrow,hE⟩:=HR.out;have hW:=Z0Q rfl hE;refine Z5X (v:=.tuple #[v,.int .i64 n]) (by simp[results,Try.results117,go_sem]) rfl ⟨_,rfl,(Z5i _ w).grown hgr (Z4A _) (λj e=>by cases e),?_⟩;rw[hW];refine .tup _ _ rfl ?_;intro i y hy
  match i,hy with
  |0,hy=>cases hy;exact Mh hrow λc h1 h2=>.inr ⟨Z0,h2⟩
  |1,hy=>cases hy;exact .int _ _
def KpW.cell{bl base:Nat}{A B:World}(h:KpW bl base A B){k i:Nat}{c:Value}(hc:A.cell? ⟨k,i,none⟩=some c)(hk:k<base)(hn:k≠bl):B.cell? ⟨k,i,none⟩=some c:=by
 have hc2:=hc;unfold World.cell? at hc;cases hh:A.heap[k]? with
 |none=>simp_all
 |some ob=>
  have hob:ob.isCells=true:=by
   rw[hh]at hc;cases ob<;>simp_all [Obj.isCells]
  rw[<-hc2];exact Z5j (a:=⟨k,i,none⟩) ((h.same k ob hh hob hn (.inl hk)).trans hh.symm)
def KOld.grown{shs:List (Int×Int)}{bt bs t n:Nat}{v:Value}{A B:World}{row:Option Nat}(h:KOld shs bt bs v t A)(hg:A.grownBy B row)(hbt:bt<n)(hbs:bs<n)(hv:shs≠[]->∀g o cap,v=.slice (some ⟨g,o,none⟩) shs.length cap->g<n)(hr:∀r,row=some r->n<=r):KOld shs bt bs v t B:=by
 obtain⟨h1,h2,h3⟩:=h;exact⟨(hg.block _ (Zv h1) (λe=>Z3L)).trans h1,h2.grown hg (λe=>Z3L) (λhn g o cap e e2=>Z3L),h3⟩
def KOld.kp{shs:List (Int×Int)}{bt bs t n bl base:Nat}{v:Value}{A B:World}(h:KOld shs bt bs v t A)(hg:KpW bl base A B)(hbt:bt<n)(hbs:bs<n)(hv:shs≠[]->∀g o cap,v=.slice (some ⟨g,o,none⟩) shs.length cap->g<n)(h1:n<=bl)(h2:n<=base):KOld shs bt bs v t B:=by
 obtain⟨k1,⟨k2,k3⟩,k4⟩:=h;refine⟨hg.same _ _ k1 rfl Z0 (.inl Z0),⟨hg.same _ _ k2 rfl Z0 (.inl Z0),?_⟩,k4⟩;obtain⟨g,o,cap,rfl,a1,a2,a3,a4⟩|h:=k3
 ·refine .inl ⟨g,o,cap,rfl,a1,a2,Z4F a3 hg.size,λi x hx=> ?_⟩;have:=hv (λe=>Z3M) _ _ _ rfl;exact⟨hg.cell (a4 i x hx).1 Z0 Z0,hg.cell (a4 i x hx).2 Z0 Z0⟩
 simp_all
def Words.below2{w W:World}{ws:List Int}{g o cap:Nat}(h:Words w ws g o cap)(hs:ws≠[]->g<w.heap.size)(hb:Below w.heap.size w W):Words W ws g o cap:=
 ⟨λi x hx=>by rw[hb.cell (p:=⟨g,o+i,none⟩) (hs (λe=>Z3M))];exact h.at_ i x hx,h.le,h.cap,h.len,h.u64⟩
def K7:Wu:=by
 intro ws shs hl hsl hu hsh;refine⟨Z2,λw G vs hG hsz hvs=> ?_⟩;have r0:=hvs 0 _ rfl;have r1:=hvs 1 _ rfl;obtain⟨⟨l⟩⟩:=vs
 ·simp at hsz
 rename_i v0 l;cases l with
 |nil=>simp at hsz
 |cons v1 l=>
 cases l with
 |cons _ _=>simp at hsz
 |nil=>
  simp at r0 r1;obtain⟨g,o,cap,hw,hsv,hg1,hg2⟩:=JI r0 hG hl hu (w.heap.size+3);have hv1:=D5 r1 hG
  obtain⟨sa,sn,sc,rfl⟩:∃a n c,v0=.slice a n c:=by
   obtain rfl|⟨_,a,c,rfl⟩:=hsv
   ·simp
   ·simp
  obtain⟨ta,tc,rfl⟩:∃a c,v1=.slice a shs.length c:=by
   grind
  have b0:((w.alloc (.cells #[.slice ta shs.length tc] 180)).alloc (.cells #[.int .i64 0] 3)).heap[w.heap.size]?=some (.cells #[.slice ta shs.length tc] 180 (0,0)):=(Z4U _ _ _ Z1).trans (Z5c w _)
  have b1:((w.alloc (.cells #[.slice ta shs.length tc] 180)).alloc (.cells #[.int .i64 0] 3)).heap[w.heap.size+1]?=some (.cells #[.int .i64 0] 3 (0,0)):=by
   have:=Z5c (w.alloc (.cells #[.slice ta shs.length tc] 180)) (.cells #[.int .i64 0] 3);simp_all
  have hB1:Below w.heap.size w ((w.alloc (.cells #[.slice ta shs.length tc] 180)).alloc (.cells #[.int .i64 0] 3)):=((Z5i _ w).alloc (Z4A _) _).alloc Z1 _;have hsz1:((w.alloc (.cells #[.slice ta shs.length tc] 180)).alloc (.cells #[.int .i64 0] 3)).heap.size=w.heap.size+2:=Z1
  have hgb:shs≠[]->∀g o cap,Value.slice ta shs.length tc=.slice (some ⟨g,o,none⟩) shs.length cap->g<w.heap.size:=by
   intro hn g o cap e;obtain⟨g1,o1,c1,e1,_,_,h4,_⟩|⟨_,_,_,h⟩:=hv1
   ·simp_all
   ·simp_all
  have hk:Calls Sol.prog 128 #[.slice sa sn sc,.func (.func 129) #[] #[.pointer (some ⟨w.heap.size+1,0,none⟩),.pointer (some ⟨w.heap.size,0,none⟩)]] ((w.alloc (.cells #[.slice ta shs.length tc] 180)).alloc (.cells #[.int .i64 0] 3))
    (DA ((w.alloc (.cells #[.slice ta shs.length tc] 180)).alloc (.cells #[.int .i64 0] 3)) ws shs true (some (w.heap.size+1)) (KOld shs (w.heap.size+1) w.heap.size (.slice ta shs.length tc))):=by
   generalize hW1:(w.alloc (.cells #[.slice ta shs.length tc] 180)).alloc (.cells #[.int .i64 0] 3)=W1 at*;have hgb1:shs≠[]->∀g o cap,Value.slice ta shs.length tc=.slice (some ⟨g,o,none⟩) shs.length cap->g<W1.heap.size:=λhn g o cap e=>Z3L;refine qR (hw.below2 hg1 hB1) hsv ⟨λh=>Z3L,Z0,Z0⟩ (.inr ⟨_,_,rfl⟩) (λr e=>Z3L) (λe=>Z3L) (MQ hsl Z0 (λhn g o cap e=>Z3L)) ⟨b1,⟨b0,?_⟩,Z0⟩ (λt A B row h hg hr=>h.grown hg (n:=W1.heap.size) Z0 Z0 hgb1 hr) (λbl base t A B h1 h2 h hk=>h.kp hk (n:=W1.heap.size) Z0 Z0 hgb1 h1 h2);obtain⟨g1,o1,c1,e1,a1,a2,a3,a4⟩|⟨a,c,e1,h⟩:=hv1
   ·exact .inl ⟨g1,o1,c1,e1,a1,a2,Z0,λi x hx=>⟨(hB1.cell (p:=⟨g1,o1+i*2,none⟩) a3).trans (a4 i x hx).1,(hB1.cell (p:=⟨g1,o1+i*2+1,none⟩) a3).trans (a4 i x hx).2⟩⟩
   ·simp_all
  have hrd:∀w1 v n (xs:List Ob),(v=.slice none 0 0/\xs=[]\/w1.ownsRow (w.heap.size+6) 59 5 v xs.length (obsC xs))->Zs ws shs true=(xs,n)->Rd w1 (λb=>true=false/\G b\/w.heap.size<=b/\b<w1.heap.size) (.tup [.sl ((Zs ws shs true).1.map obV),vi (Zs ws shs true).2]) (.tuple #[v,.int .i64 n]):=by
   intro w1 v n xs hrow hW;rw[hW];refine .tup _ _ rfl ?_;intro i y hy
   match i,hy with
   |0,hy=>
    cases hy;obtain⟨rfl,rfl⟩|hrow:=hrow
    ·exact .nil _ _ (by grind [maxLen])
    ·exact Mh hrow λc h1 h2=>.inr ⟨Z0,h2⟩
   |1,hy=>cases hy;exact .int _ _
  have hk2:Calls Sol.prog 128 #[.slice sa sn sc,.func (.func 129) #[] #[.pointer (some ⟨w.heap.size+1,0,none⟩),.pointer (some ⟨w.heap.size,0,none⟩)]] ((w.alloc (.cells #[.slice ta shs.length tc] 180)).alloc (.cells #[.int .i64 0] 3)) λe w1=>
    (∃(v:Value) (t:Nat),e=.returned (.tuple #[v,.int .i64 0])/\w1.cell? ⟨w.heap.size+1,0,none⟩=some (.int .i64 t)/\w1.cell? ⟨w.heap.size,0,none⟩=some (.slice ta shs.length tc)/\(t:Int)<shs.length/\Hid (Below w.heap.size w w1/\Rd w1 (λb=>true=false/\G b\/w.heap.size<=b/\b<w1.heap.size) (.tup [.sl ((Zs ws shs true).1.map obV),vi (Zs ws shs true).2]) (.tuple #[.slice none 0 0,.int .i64 3])))\/
    (∃(v:Value) (t:Nat),e=.returned (.tuple #[v,.int .i64 0])/\w1.cell? ⟨w.heap.size+1,0,none⟩=some (.int .i64 t)/\w1.cell? ⟨w.heap.size,0,none⟩=some (.slice ta shs.length tc)/\¬(t:Int)<shs.length/\Hid (Below w.heap.size w w1/\Rd w1 (λb=>true=false/\G b\/w.heap.size<=b/\b<w1.heap.size) (.tup [.sl ((Zs ws shs true).1.map obV),vi (Zs ws shs true).2]) (.tuple #[v,.int .i64 0])))\/
    (∃(v:Value) (n:Int),e=.returned (.tuple #[v,.int .i64 n])/\¬n=0/\Hid (Below w.heap.size w w1/\Rd w1 (λb=>true=false/\G b\/w.heap.size<=b/\b<w1.heap.size) (.tup [.sl ((Zs ws shs true).1.map obV),vi (Zs ws shs true).2]) (.tuple #[.slice none 0 0,.int .i64 n]))):=by
   refine hk.mono ?_;rintro e w1 ⟨v,n,xs,rfl,hgr,hrow,hE⟩;rw[hsz1]at hrow;have hB:Below w.heap.size w w1:=hB1.trans ((Z5i _ _).grown hgr Z0 (λj e=>Z3L));obtain⟨rfl,t,⟨hb,hs,ht⟩,hWk⟩|⟨hn,rfl,hWk⟩:=hE
   ·have q1:w1.cell? ⟨w.heap.size+1,0,none⟩=some (.int .i64 t):=by rw[Z4Q _ _ _ _ _ _ hb];rfl
    have q2:w1.cell? ⟨w.heap.size,0,none⟩=some (.slice ta shs.length tc):=Z4i;by_cases hlt:t<shs.length
    ·rw[if_pos hlt]at hWk;exact .inl ⟨v,t,rfl,q1,q2,Z0,Z4O ⟨hB,hrd w1 _ _ [] (.inl ⟨rfl,rfl⟩) hWk⟩⟩
    ·rw[if_neg hlt]at hWk;exact .inr (.inl ⟨v,t,rfl,q1,q2,Z0,Z4O ⟨hB,hrd w1 _ _ xs (.inr hrow) hWk⟩⟩)
   ·exact .inr (.inr ⟨v,n,rfl,Z0,Z4O ⟨hB,hrd w1 _ _ [] (.inl ⟨rfl,rfl⟩) hWk⟩⟩)
  have HK:=Z4O hk2;clear hw hsv r0 r1 hvs hv1 hg1 hg2 hk hk2 hB1 b0 b1 hgb hsz1 hrd;go_enter Sol.func119,Try.ntmps119;have hmf:∀(fn:Go.Fn) (first cap:Array Value) (w:World),(Instr.makeFunc fn first cap).run Sol.prog w=.ok (.func fn first cap) w:=λ_ _ _ _=>rfl
  go_wp2_with (go_at_call 128;refine HK.out.mono ?_;rintro e w1 (⟨v,t,rfl,q1,q2,hlt,HF⟩|⟨v,t,rfl,q1,q2,hlt,HF⟩|⟨v,n,rfl,hn,HF⟩))
  ·refine Z5X (v:=.tuple #[.slice none 0 0,.int .i64 3]) (by simp[results,Try.results119,go_sem]) rfl ⟨_,rfl,HF.out.1,HF.out.2⟩
  ·refine Z5X (v:=.tuple #[v,.int .i64 0]) (by simp[results,Try.results119,go_sem]) rfl ⟨_,rfl,HF.out.1,HF.out.2⟩
  ·refine Z5X (v:=.tuple #[.slice none 0 0,.int .i64 n]) (by simp[results,Try.results119,go_sem]) rfl ⟨_,rfl,HF.out.1,HF.out.2⟩
end Vm
namespace Vm
open Go Go.Proofs Go.RowKit
def Fq{w:World}{G:Nat->Prop}{l:List Ob}{v:Value}(r:Rd w G (.sl (l.map obV)) v)(hG:∀b,G b->b<w.heap.size):
  (∃g o cap,v=.slice (some ⟨g,o,none⟩) l.length cap/\l.length<=cap/\cap<=maxLen/\g<w.heap.size/\∀(i:Nat) (x:Ob),l[i]?=some x->w.cell? ⟨g,o+i*5,none⟩=some (.int .i64 x.at_)/\w.cell? ⟨g,o+i*5+1,none⟩=some (.int .i64 x.size)/\
   w.cell? ⟨g,o+i*5+2,none⟩=some (.int .i64 x.ptrs)/\w.cell? ⟨g,o+i*5+3,none⟩=some (.bool x.gone)/\w.cell? ⟨g,o+i*5+4,none⟩=some (.int .u64 x.target))\/
  (∃a cap,v=.slice a 0 cap/\l=[]):=by
 generalize hL:l.map obV=L at r;cases r with
 |nil a cap hc=>
  simp_all
 |sl _ b o cap k vs h1 h2 h3 h4 h5 h6=>
  subst hL;simp only[Z56]at h1 h5⊢;refine .inl ⟨b,o,cap,rfl,h1,h2,hG b h3,λi x hx=> ?_⟩;have hm:(l.map obV)[i]?=some (obV x):=by rw[Z4M,hx];rfl
  have hk:k=5:=((h4 _ (Z4B hm)).1).symm;subst hk;have hi:i<l.length:=(Z4v.1 hx).1;have e0:=h6 (i*5) (vi x.at_) (by have:=YJ h4 hm 0 Z0;simp_all);have e1:=h6 (i*5+1) (vi x.size) (by have:=YJ h4 hm 1 Z0;simp_all);have e2:=h6 (i*5+2) (vi x.ptrs) (by have:=YJ h4 hm 2 Z0;simp_all);have e3:=h6 (i*5+3) (.bool x.gone) (by have:=YJ h4 hm 3 Z0;simp_all);have e4:=h6 (i*5+4) (vu x.target) (by have:=YJ h4 hm 4 Z0;simp_all)
  grind [Vf,Nat.add_assoc,By]
end Vm
end
section

end
section
namespace Vm
open Go Go.Proofs
def Z1I{h:Hp}(hh:h.ok):VC Sol.prog 25 false [hpV h] (.bool (YC h)):=by
 rw[<-(KJ h).1];exact Dw DB K7 hh
def OJ{h:Hp}(hh:h.ok){k:Int}:VC Sol.prog 27 false [hpV h,vi k] (.tup [.sl ((Uz h k).1.map obV),vi (Uz h k).2]):=by
 rw[<-F3 h k];exact qX DB K7 hh
end Vm
end
section
namespace Vm
open Go
open Go.Proofs
def p17:Fn:=⟨5,[0,1,2,3,6],
pQ [pR [(1,pS 0 2),(2,.m [pN,pN]),pV 3 (pI 0)],pQ [pC [pK 5 19 [.mm 1 0 2]] [pV 4 (.un .not (.s 5))]] (.cond (.s 4) (pQ [.reg ⟨[],[([],.ag [pN,pN])],[(2,.m [pN,pN]),pV 3 (pI 1)]⟩] .ret) .skip),pC [.callm 6 [] (.id 47) [.fz,(.own 97)] [.mm 1 0 2,.c (.mp 0 [] [])]] [(2,pM (.sz (.ext (.s 6) 0) 2) 2),pV 3 (pI 0)]] .ret,[(2,(.ag 2)),(3,.v)]⟩
def c17:Zf Sol.prog fresh sig [.fz] [] Try.f17=some p17:=Z2
def p18:Fn:=⟨12,[0,1,2,3,4,5,24,6,29,7,8,63],
pQ [pR [(2,pS 0 2),(3,pS 1 2),pV 4 pF],pC [pK 12 48 [.m 2 1,.m 3 1]] [pV 5 (.s 12)],pQ [.reg ⟨[.lt 13 [] (.un .not (.s 5))],[([(13,false)],.bin .neq (.len (.m 2 0)) (.len (.m 3 0)))],[pV 6 (.ite (.s 13) pT (.bin .neq (.len (.m 2 0)) (.len (.m 3 0))))]⟩] (.cond (.s 6) (pQ [pR [pV 4 pF]] .ret) .skip),pQ [pR [pV 7 (pI 0)]] (.block 0 (.loop [0,1,2,3,4,5,6,7] (pQ [pQ [pR [pV 8 (.bin .lss (.s 7) (.len (.m 2 0)))]] (.cond (.s 8) .skip (.exit 0)),.block 1 (pQ [pC [pK 14 48 [.fld (.idx (.m 2 0) (.s 7) 2) 0,.fld (.idx (.m 3 0) (.s 7) 2) 0]] [pV 9 (.s 14)],pC [pK 15 49 [.fld (.idx (.m 2 0) (.s 7) 2) 1,.fld (.idx (.m 3 0) (.s 7) 2) 1]] [pV 10 (.s 15)],.reg ⟨[.lt 16 [] (.un .not (.s 9))],[([(16,false)],.un .not (.s 10))],[pV 11 (.ite (.s 16) pT (.un .not (.s 10)))]⟩] (.cond (.s 11) (pQ [pR [pV 4 pF]] .ret) .skip))] (pR [pV 7 (.bin .add (.s 7) (pI 1))])))),pR [pV 4 pT]] .ret,[(4,.v)]⟩
def c18:Zf Sol.prog fresh sig [.fz,.fz] [] Try.f18=some p18:=Z2
def p19:Fn:=⟨11,[0,1,2,9,3,14,13,15,5,12,32],
pQ [pR [(1,pS 0 2),pV 2 pF],pQ [pR [pV 3 (.bin .gtr (.len (.m 1 1)) (pI 16))]] (.cond (.s 3) (pQ [pR [pV 2 pF]] .ret) .skip),pR [(4,.no)],pQ [pR [(4,.no),pV 5 (pI 0),pV 6 (.len (.m 1 0)),pV 9 (.m 1 0)]] (.block 0 (.loop [0,1,2,3,4,5,6,9] (pQ [pR [(4,.no),pV 7 (.bin .lss (.s 5) (.s 6))],.cond (.s 7) .skip (.exit 0),.block 1 (pQ [pR [(4,.no),(8,pM (.flds (.idx (.s 9) (.s 5) 2) 0 2) 2)],.reg ⟨[.lt 11 [] (.bin .gtr (.bin .add (.len (.m 8 0)) (.len (.m 8 1))) (pI 255)),.callm 12 [(11,false)] (.id 50) [.fz,(.mem [.fz,.fz])] [.m 8 0,.ag [.m 1 0,.m 1 1]]],[([(11,false)],.un .not (.ext (.s 12) 0))],[(1,pM (.ext (.s 12) 1) 2),(4,.no),pV 10 (.ite (.s 11) pT (.un .not (.ext (.s 12) 0)))]⟩] (.cond (.s 10) (pQ [pR [pV 2 pF,(4,.no)]] .ret) .skip))] (pR [(4,.no),pV 5 (.bin .add (.s 5) (pI 1))])))),pC [.callm 13 [] (.id 50) [.fz,(.mem [.fz,.fz])] [.m 1 1,.ag [.m 1 0,.m 1 1]]] [(1,pM (.ext (.s 13) 1) 2),pV 2 (.ext (.s 13) 0),(4,.no)]] .ret,[(2,.v)]⟩
def c19:Zf Sol.prog fresh sig [.fz] [] Try.f19=some p19:=Z2
def p24:Fn:=⟨9,[0,1,2,3,4,15,5,6,7],
pQ [pR [(2,pS 0 2),(3,pS 1 2),pV 4 pF],pQ [.reg ⟨[pK 9 19 [.mm 2 0 2],.lt 10 [] (.un .not (.s 9)),.call 11 [(10,false)] (.id 19) false false [.mm 3 0 2]],[([(10,false)],.un .not (.s 11))],[pV 5 (.ite (.s 10) pT (.un .not (.s 11)))]⟩] (.cond (.s 5) (pQ [pR [pV 4 pF]] .ret) .skip),pR [pV 6 (.c (.mp 0 [] []))],pC [.callm 12 [] (.id 47) [.fz,(.own 97)] [.mm 2 0 2,.s 6]] [pV 6 (.ext (.s 12) 1),(7,pM (.sz (.ext (.s 12) 0) 2) 2)],pC [.callm 13 [] (.id 47) [.fz,(.own 97)] [.mm 3 0 2,.s 6]] [pV 6 (.ext (.s 13) 1),(8,pM (.sz (.ext (.s 13) 0) 2) 2)],pC [pK 14 54 [.m 7 1,.m 8 1],.lt 15 [] (.s 14),.call 16 [(15,true)] (.id 55) false false [.m 7 0,.m 8 0,.c (.fn 56)]] [pV 4 (.ite (.s 15) (.s 16) pF)]] .ret,[(4,.v)]⟩
def c24:Zf Sol.prog fresh sig [.fz,.fz] [] Try.f24=some p24:=Z2
def p47:Fn:=⟨11,[0,1,2,4,5,13,12,14,7,11,8],
pQ [pR [(2,pS 0 2),(3,.m [pN,pN])],pR [(4,.m [pN,pN])],pQ [pC [.callm 9 [] (.id 80) [.fz,(.own 97)] [.mm 2 0 2,.s 1]] [pV 1 (.ext (.s 9) 1),pV 5 (pI 0),pV 6 (.len (.ext (.s 9) 0)),pV 9 (.ext (.s 9) 0)]] (.block 0 (.loop [0,1,2,3,4,5,6,9] (pQ [pR [pV 7 (.bin .lss (.s 5) (.s 6))],.cond (.s 7) .skip (.exit 0),.block 1 (pQ [pR [pV 8 (.fld (.idx (.s 9) (.s 5) 1) 0)],pR [(10,pM (.flds (.idx (.m 2 0) (.s 8) 2) 0 2) 2)]] (pC [.call 11 [] (.id 81) true false [.m 10 0,.s 1]] [(4,.m [.app (.m 4 0) (.lit [.ag [.one (.s 11),.app pN (.m 10 1) 1]]) 2,.m 4 1])]))] (pR [pV 5 (.bin .add (.s 5) (pI 1))])))),pC [.call 12 [] (.id 81) true false [.m 2 1,.s 1]] [(4,.m [.m 4 0,.one (.s 12)])],pR [(3,pM (.mm 4 0 2) 2)]] .ret,[(3,(.ag 2))]⟩
def c47:Zf Sol.prog fresh sig [.fz,(.own 97)] [(1,(.own 97))] Try.f47=some p47:=Z2
def p48:Fn:=⟨7,[0,1,4,10,5,14,25],
pQ [pR [pV 2 pF],pQ [pR [pV 3 (.bin .neq (.len (.s 0)) (.len (.s 1)))]] (.cond (.s 3) (pQ [pR [pV 2 pF]] .ret) .skip),pQ [pR [pV 4 (pI 0)]] (.block 0 (.loop [0,1,2,3,4] (pQ [pQ [pR [pV 5 (.bin .lss (.s 4) (.len (.s 0)))]] (.cond (.s 5) .skip (.exit 0)),.block 1 (pQ [pR [pV 6 (.bin .neq (.fld (.idx (.s 0) (.s 4) 1) 0) (.fld (.idx (.s 1) (.s 4) 1) 0))]] (.cond (.s 6) (pQ [pR [pV 2 pF]] .ret) .skip))] (pR [pV 4 (.bin .add (.s 4) (pI 1))])))),pR [pV 2 pT]] .ret,[(2,.v)]⟩
def c48:Zf Sol.prog fresh sig [.fz,.fz] [] Try.f48=some p48:=Z2
def p50:Fn:=⟨9,[0,1,3,8,7,9,5,6,20],
pQ [pR [pV 2 pF],pQ [pR [pV 3 (pI 0),pV 4 (.len (.s 0)),pV 7 (.s 0)]] (.block 0 (.loop [0,1,2,3,4,7] (pQ [pR [pV 5 (.bin .lss (.s 3) (.s 4))],.cond (.s 5) .skip (.exit 0),.block 1 (pQ [pR [pV 6 (.fld (.idx (.s 7) (.s 3) 1) 0)],.reg ⟨[.lt 9 [] (.bin .lss (.s 6) (pI (-1)))],[([(9,false)],.bin .geq (.s 6) (.len (.m 1 0)))],[pV 8 (.ite (.s 9) pT (.bin .geq (.s 6) (.len (.m 1 0))))]⟩] (.cond (.s 8) (pQ [pR [pV 2 pF]] .ret) .skip))] (pR [pV 3 (.bin .add (.s 3) (pI 1))])))),pR [pV 2 pT]] .ret,[(2,.v)]⟩
def c50:Zf Sol.prog fresh sig [.fz,(.mem [.fz,.fz])] [(1,(.mem [.fz,.fz]))] Try.f50=some p50:=Z2
def p54:Fn:=⟨9,[0,1,4,10,13,12,14,5,24],
pQ [pR [pV 2 pF],pQ [pR [pV 3 (.bin .neq (.len (.s 0)) (.len (.s 1)))]] (.cond (.s 3) (pQ [pR [pV 2 pF]] .ret) .skip),pQ [pR [pV 4 (pI 0),pV 5 (.len (.s 0))]] (.block 0 (.loop [0,1,2,3,4,5] (pQ [pR [pV 6 (.bin .lss (.s 4) (.s 5))],.cond (.s 6) .skip (.exit 0),.block 1 (pQ [pR [pV 7 (.s 4)],pR [pV 8 (.bin .neq (.fld (.idx (.s 0) (.s 7) 1) 0) (.fld (.idx (.s 1) (.s 7) 1) 0))]] (.cond (.s 8) (pQ [pR [pV 2 pF]] .ret) .skip))] (pR [pV 4 (.bin .add (.s 4) (pI 1))])))),pR [pV 2 pT]] .ret,[(2,.v)]⟩
def c54:Zf Sol.prog fresh sig [.fz,.fz] [] Try.f54=some p54:=Z2
def p55:Fn:=⟨13,[0,1,2,6,14,17,16,18,8,7,15,9,30],
pQ [pR [pV 3 pF],pQ [pR [pV 4 (.bin .neq (.len (.s 0)) (.len (.s 1)))]] (.cond (.s 4) (pQ [pR [pV 3 pF]] .ret) .skip),pQ [pR [pV 5 (pI 0),pV 6 (.len (.s 0)),pV 10 (.s 0)]] (.block 0 (.loop [0,1,2,3,4,5,6,10] (pQ [pR [pV 7 (.bin .lss (.s 5) (.s 6))],.cond (.s 7) .skip (.exit 0),.block 1 (pQ [pR [(8,pM (.flds (.idx (.s 10) (.s 5) 2) 0 2) 2),pV 9 (.s 5)],pR [(11,pM (.flds (.idx (.s 1) (.s 9) 2) 0 2) 2)],pC [.call 13 [] (.e (.s 2)) false false [.mm 8 0 2,.mm 11 0 2]] [pV 12 (.un .not (.s 13))]] (.cond (.s 12) (pQ [pR [pV 3 pF]] .ret) .skip))] (pR [pV 5 (.bin .add (.s 5) (pI 1))])))),pR [pV 3 pT]] .ret,[(3,.v)]⟩
def c55:Zf Sol.prog fresh sig [.fz,.fz,.fz] [] Try.f55=some p55:=Z2
def p56:Fn:=⟨5,[0,1,2,3,4],
pQ [pR [(2,pS 0 2),(3,pS 1 2),pV 4 pF],pC [pK 5 54 [.m 2 0,.m 3 0],.lt 6 [] (.s 5),.call 7 [(6,true)] (.id 57) false false [.m 2 1,.m 3 1]] [pV 4 (.ite (.s 6) (.s 7) pF)]] .ret,[(4,.v)]⟩
def c56:Zf Sol.prog fresh sig [.fz,.fz] [] Try.f56=some p56:=Z2
def p57:Fn:=⟨9,[0,1,4,10,13,12,14,5,24],
pQ [pR [pV 2 pF],pQ [pR [pV 3 (.bin .neq (.len (.s 0)) (.len (.s 1)))]] (.cond (.s 3) (pQ [pR [pV 2 pF]] .ret) .skip),pQ [pR [pV 4 (pI 0),pV 5 (.len (.s 0))]] (.block 0 (.loop [0,1,2,3,4,5] (pQ [pR [pV 6 (.bin .lss (.s 4) (.s 5))],.cond (.s 6) .skip (.exit 0),.block 1 (pQ [pR [pV 7 (.s 4)],pR [pV 8 (.bin .neq (.fld (.idx (.s 0) (.s 7) 1) 0) (.fld (.idx (.s 1) (.s 7) 1) 0))]] (.cond (.s 8) (pQ [pR [pV 2 pF]] .ret) .skip))] (pR [pV 4 (.bin .add (.s 4) (pI 1))])))),pR [pV 2 pT]] .ret,[(2,.v)]⟩
def c57:Zf Sol.prog fresh sig [.fz,.fz] [] Try.f57=some p57:=Z2
def p80:Fn:=⟨9,[0,1,2,3,4,5,6,7,17],
pQ [pR [(1,.no),(2,pS 0 2),(3,.m [.s 1]),pV 4 pN],pR [(3,.m [.mclr (.m 3 0)])],pR [(5,.m [pN])],pR [(6,.no)],pC [.callm 9 [] (.id 102) [.fz,(.mem [(.own 97)]),(.mem [(.own 3)])] [.m 2 1,.ag [.m 3 0],.ag [.m 5 0]]] [(3,.m [.fld (.ext (.s 9) 1) 0]),(5,.m [.fld (.ext (.s 9) 2) 0]),(6,.no)],pQ [pR [(6,.no),pV 7 (pI 0)]] (.block 0 (.loop [0,2,3,4,5,6,7] (pQ [pQ [pR [(6,.no),pV 8 (.bin .lss (.s 7) (.len (.m 5 0)))]] (.cond (.s 8) .skip (.exit 0)),.block 1 (pC [.callm 10 [] (.id 102) [.fz,(.mem [(.own 97)]),(.mem [(.own 3)])] [.fld (.idx (.m 2 0) (.fld (.idx (.m 5 0) (.s 7) 1) 0) 2) 0,.ag [.m 3 0],.ag [.m 5 0]]] [(3,.m [.fld (.ext (.s 10) 1) 0]),(5,.m [.fld (.ext (.s 10) 2) 0]),(6,.no)])] (pR [(6,.no),pV 7 (.bin .add (.s 7) (pI 1))])))),pR [pV 4 (.m 5 0),(6,.no)]] .ret,[(4,.v)]⟩
def c80:Zf Sol.prog fresh sig [.fz,(.own 97)] [(3,(.mem [(.own 97)]))] Try.f80=some p80:=Z2
def p81:Fn:=⟨10,[0,1,4,5,10,9,11,7,8,15],
pQ [pR [pV 2 pN],pR [pV 3 pN],pQ [pR [pV 4 (pI 0),pV 5 (.len (.s 0)),pV 8 (.s 0)]] (.block 0 (.loop [0,1,2,3,4,5,8] (pQ [pR [pV 6 (.bin .lss (.s 4) (.s 5))],.cond (.s 6) .skip (.exit 0),.block 1 (pQ [pR [pV 7 (.fld (.idx (.s 8) (.s 4) 1) 0)],pQ [pR [pV 9 (.bin .geq (.s 7) (pI 0))]] (.cond (.s 9) (pR [pV 7 (.lk (.i .i64) (.s 1) (.s 7) (.int .i64 0) false)]) .skip)] (pR [pV 3 (.app (.s 3) (.lit [.one (.s 7)]) 1)]))] (pR [pV 4 (.bin .add (.s 4) (pI 1))])))),pR [pV 2 (.s 3),(3,.no)]] .ret,[(2,.v)]⟩
def c81:Zf Sol.prog fresh sig [.fz,.fz] [(4,(.own 3))] Try.f81=some p81:=Z2
def p102:Fn:=⟨11,[0,1,2,10,9,11,5,8,6,7,25],
pQ [pR [pV 3 (pI 0),pV 4 (.len (.s 0)),pV 7 (.s 0)]] (.block 0 (.loop [0,1,2,3,4,7] (pQ [pR [pV 5 (.bin .lss (.s 3) (.s 4))],.cond (.s 5) .skip (.exit 0),.block 1 (pQ [pR [pV 6 (.fld (.idx (.s 7) (.s 3) 1) 0)],pR [pV 8 (.fl (.ext (.lk (.i .i64) (.m 1 0) (.s 6) (.int .i64 0) true) 0)),pV 9 (.fl (.ext (.lk (.i .i64) (.m 1 0) (.s 6) (.int .i64 0) true) 1))],.reg ⟨[.lt 11 [] (.bin .geq (.s 6) (pI 0))],[([(11,true)],.un .not (.s 9))],[pV 10 (.ite (.s 11) (.un .not (.s 9)) pF)]⟩] (.cond (.s 10) (pQ [pR [(1,.m [.mput (.i .i64) (.m 1 0) (.s 6) (.len (.m 2 0))])]] (pR [(2,.m [.app (.m 2 0) (.lit [.one (.s 6)]) 1])])) .skip))] (pR [pV 3 (.bin .add (.s 3) (pI 1))])))),[]⟩
def c102:Zf Sol.prog fresh sig [.fz,(.mem [(.own 97)]),(.mem [(.own 3)])] [(1,(.mem [(.own 97)])),(2,(.mem [(.own 3)]))] Try.f102=some p102:=Z2
end Vm
end
section
namespace Vm
open Go Go.Proofs
def Gr.sm(g:Gr):Prop:=g.nodes.length<=100000/\g.roots.length<=100000/\∀n∈g.nodes,n.ptrs.length<=100000/\n.data.length<=100000
def inR(n:Nat)(p:Int):Bool:=decide (-1<=p/\p<n)
def TF(k:Nat)(n:Nd):Bool:=decide (n.ptrs.length+n.data.length<=255)&&n.ptrs.all (inR k)
def right(g:Gr):Bool:=decide (g.roots.length<=16)&&g.nodes.all (TF g.nodes.length)&&g.roots.all (inR g.nodes.length)
theorem Ti{α:Type}{p:α->Bool}{l:List α}{i:Nat}{x:α}(h:l[i]?=some x):(l.take (i+1)).all p=((l.take i).all p&&p x):=by
 rw[Z5n,h,Z8p];simp
theorem SZ{α:Type}{p:α->Bool}{l:List α}{i:Nat}{x:α}(h:l[i]?=some x)(hp:p x=false):l.all p=false:=by
 grind
def B2{l:List Int}{ns:List V}{rs:V}(hl:l.length<=100000)(hr:rs.one=true)(ho:oneV rs=some rs):
  VCM Sol.prog 50 [.fz,.mem [.fz,.fz]] [.sl (l.map vi),.agg [.sl ns,rs]] (.tup [.bool (l.all (inR ns.length)),.agg [.sl ns,rs]]):=by
 refine WS Sol.func50 follows Z2 c50 Z2 ?_;simp[-List.all_eq_true,-List.all_eq_false,p50];refine Yp (λt=>∃i:Nat,i<=l.length/\(l.take i).all (inR ns.length)=true/\t=[.v (.sl (l.map vi)),.m [.sl ns,rs],.v (.bool false),.v (vi i),.v (vi l.length),.no,.no,.v (.sl (l.map vi))]) (λt=>match get t 3 with|.v (.int _ n)=>l.length-n.toNat|_=>0) ?_ ?_
 ·exact⟨0,Z1,Z1,Z1⟩
 ·rintro t ⟨i,hi,hall,rfl⟩;by_cases h:i<l.length
  ·have hx:l[i]?=some l[i]:=Z4u h;simp[-List.all_eq_true,-List.all_eq_false,h];simp(disch:=omega) only[Z7]
   grind [SZ,inR,Ti]
  ·have:i=l.length:=Z0;simp_all
def TQ{g:Gr}(hg:g.sm):VC Sol.prog 19 false [grV g] (.bool (right g)):=by
 obtain⟨hg1,hg2,hg3⟩:=hg;refine Z8 Sol.func19 follows Z2 c19 rfl ?_;simp[-List.all_eq_true,-List.all_eq_false,p19];split
 ·grind [List.all_eq_true,List.all_eq_false,right]
 ·rename_i h;refine Yp (λt=>∃i:Nat,i<=g.nodes.length/\(g.nodes.take i).all (TF g.nodes.length)=true/\t=[.v (grV g),.m [.sl (g.nodes.map ndV),.sl (g.roots.map vi)],.v (.bool false),.v (.bool false),.no,.v (vi i),.v (vi g.nodes.length),.no,.no,.v (.sl (g.nodes.map ndV))]) (λt=>match get t 5 with|.v (.int _ n)=>g.nodes.length-n.toNat|_=>0) ?_ ?_
  ·exact⟨0,Z1,Z1,by simp[h]⟩
  ·rintro t ⟨i,hi,hall,rfl⟩;by_cases hlt:i<g.nodes.length
   ·have hx:g.nodes[i]?=some g.nodes[i]:=Z4u hlt;obtain⟨h1,h2⟩:=hg3 _ (Z4J hlt);have hw:=Z7 ((i:Int)+1) Z0 Z0;simp[-List.all_eq_true,-List.all_eq_false,hlt,hw];simp(disch:=omega) only[Z7];have hno:TF g.nodes.length g.nodes[i]=false->right g=false:=λh0=>by grind [List.all_eq_true,List.all_eq_false,right,SZ]
    by_cases h3:(g.nodes[i].ptrs.length:Int)+(g.nodes[i].data.length:Int)<=255
    ·rw[if_pos h3];refine ZP (B2 h1 Z4r Z4r) ?_;have h3':¬(255:Int)< (g.nodes[i].ptrs.length:Int)+(g.nodes[i].data.length:Int):=Z0;cases h4:g.nodes[i].ptrs.all (inR g.nodes.length)
     ·simp[-List.all_eq_true,-List.all_eq_false,h3',h4];simp_all[Z4D,Z6A,TF]
     ·simp[-List.all_eq_true,-List.all_eq_false,h3',h4,hw]
      grind [Ti,List.all_eq_true,List.all_eq_false,TF]
    ·rw[if_neg h3]
     grind [List.all_eq_true,List.all_eq_false,TF]
   ·have:i=g.nodes.length:=Z0;subst this;simp[-List.all_eq_true,-List.all_eq_false];refine ZP (B2 hg2 Z4r Z4r) ?_;rw[Z5D]at hall;simp[-List.all_eq_true,-List.all_eq_false,right,hall];omega
end Vm
namespace Vm
open Go Go.Proofs
def zP{a b:List Int}(ha:a.length<=100000):VC Sol.prog 54 false [.sl (a.map vi),.sl (b.map vi)] (.bool (decide (a=b))):=by
 refine Z8 Sol.func54 follows Z2 c54 rfl ?_;by_cases hl:a.length=b.length
 ·simp[p54,hl];refine Yp (λt=>∃i:Nat,i<=b.length/\a.take i=b.take i/\t=[.v (.sl (a.map vi)),.v (.sl (b.map vi)),.v (.bool false),.v (.bool false),.v (vi i),.v (vi b.length)]) (λt=>match get t 4 with|.v (.int _ n)=>b.length-n.toNat|_=>0) ?_ ?_
  ·exact⟨0,Z1,Z1,Z1⟩
  ·rintro t ⟨i,hi,heq,rfl⟩;by_cases h:i<b.length
   ·have h':i<a.length:=Z0;by_cases hx:a[i]=b[i]
    ·simp_all;simp(disch:=omega) only[Z7]
     grind [YX]
    ·simp_all
     grind
   simp_all[Z5D,Z52]
 ·simp[p54,show ¬((a.length:Int)=(b.length:Int))by omega]
  grind
def E7{a b:List Int}(ha:a.length<=100000):VC Sol.prog 57 false [.sl (a.map vu),.sl (b.map vu)] (.bool (decide (a=b))):=by
 refine Z8 Sol.func57 follows Z2 c57 rfl ?_;by_cases hl:a.length=b.length
 ·simp[p57,hl];refine Yp (λt=>∃i:Nat,i<=b.length/\a.take i=b.take i/\t=[.v (.sl (a.map vu)),.v (.sl (b.map vu)),.v (.bool false),.v (.bool false),.v (vi i),.v (vi b.length)]) (λt=>match get t 4 with|.v (.int _ n)=>b.length-n.toNat|_=>0) ?_ ?_
  ·exact⟨0,Z1,Z1,Z1⟩
  ·rintro t ⟨i,hi,heq,rfl⟩;by_cases h:i<b.length
   ·have h':i<a.length:=Z0;by_cases hx:a[i]=b[i]
    ·simp_all;simp(disch:=omega) only[Z7]
     grind [YX]
    ·simp_all
     grind
   simp_all[Z5D,Z52]
 ·simp[p57,show ¬((a.length:Int)=(b.length:Int))by omega]
  grind
def EO{a b:List Int}(ha:a.length<=100000):VC Sol.prog 48 false [.sl (a.map vi),.sl (b.map vi)] (.bool (decide (a=b))):=by
 refine Z8 Sol.func48 follows Z2 c48 rfl ?_;by_cases hl:a.length=b.length
 ·simp[p48,hl];refine Yp (λt=>∃i:Nat,i<=b.length/\a.take i=b.take i/\t=[.v (.sl (a.map vi)),.v (.sl (b.map vi)),.v (.bool false),.v (.bool false),.v (vi i)]) (λt=>match get t 4 with|.v (.int _ n)=>b.length-n.toNat|_=>0) ?_ ?_
  ·exact⟨0,Z1,Z1,Z1⟩
  ·rintro t ⟨i,hi,heq,rfl⟩;by_cases h:i<b.length
   ·have h':i<a.length:=Z0;by_cases hx:a[i]=b[i]
    ·simp_all;simp(disch:=omega) only[Z7]
     grind [YX]
    ·simp_all
     grind
   simp_all[Z5D,Z52]
 ·simp[p48,show ¬((a.length:Int)=(b.length:Int))by omega]
  grind
def qy{m n:Nd}(h1:m.ptrs.length<=100000)(h2:m.data.length<=100000):VC Sol.prog 56 false [ndV m,ndV n] (.bool (decide (m=n))):=by
 refine Z8 Sol.func56 follows Z2 c56 rfl ?_;simp[p56];refine Z4 (zP h1) Z1 ?_;by_cases hp:m.ptrs=n.ptrs
 ·simp[hp];refine Z4 (E7 h2) Z1 ?_;simp;cases m;cases n;simp_all
 ·simp[hp]
  grind
def zO{a b:List Nd}(ha:a.length<=100000)(hs:∀n∈a,n.ptrs.length<=100000/\n.data.length<=100000):VC Sol.prog 55 false [.sl (a.map ndV),.sl (b.map ndV),.fn 56] (.bool (decide (a=b))):=by
 refine Z8 Sol.func55 follows Z2 c55 rfl ?_;by_cases hl:a.length=b.length
 ·simp[p55,hl];refine Yp (λt=>∃i:Nat,i<=b.length/\a.take i=b.take i/\t=[.v (.sl (a.map ndV)),.v (.sl (b.map ndV)),.v (.fn 56),.v (.bool false),.v (.bool false),.v (vi i),.v (vi b.length),.no,.no,.no,.v (.sl (a.map ndV))]) (λt=>match get t 5 with|.v (.int _ n)=>b.length-n.toNat|_=>0) ?_ ?_
  ·exact⟨0,Z1,Z1,Z1⟩
  ·rintro t ⟨i,hi,heq,rfl⟩;by_cases h:i<b.length
   ·have h':i<a.length:=Z0;obtain⟨s1,s2⟩:=hs _ (Z4J h');simp[h,h']
    first|refine ZP (GC (qy (m:=a[i]) (n:=b[i]) s1 s2)) ?_ |refine Z4 (qy (m:=a[i]) (n:=b[i]) s1 s2) Z1 ?_
    by_cases hx:a[i]=b[i]
    ·simp[hx];simp(disch:=omega) only[Z7]
     grind [YX]
    ·simp[hx]
     grind
   simp_all[Z5D,Z52]
 ·simp[p55,show ¬((a.length:Int)=(b.length:Int))by omega]
  grind
end Vm
namespace Vm
open Go Go.Proofs
def upto(n:Nat):List V:=(List.range n).map λ(i:Nat)=>vi i
def atM(id:Nat)(l:List Int):V:=.mp id (l.map vi) (upto l.length)
def ZJ:List Int->List Int->List Int
 |acc,[]=>acc
 |acc,x::l=>ZJ (if 0<=x/\x∉acc then acc++[x]else acc) l
def Lq{x:Int}:∀ {l:List Int},JO (vi x) (l.map vi)=some (l.findIdx? (· ==x))
 | []=>rfl
 |y::l=>by
  simp only[Z4T,JO,ES,Z5b,Z7f];by_cases h:x=y
  ·subst h;simp
  ·have h2:(x==y)=false:=by simpa using h
   have h3:(y==x)=false:=by simpa using Z6K h
   simp[h2,h3,Lq]
def VE{x:Int}{l:List Int}:l.findIdx? (· ==x)=none↔x∉l:=by
 grind
theorem Md{id:Nat}{l:List Int}{x:Int}{z:V}{ok:Bool}:lkV (.i .i64) (atM id l) (vi x) z ok=match l.findIdx? (· ==x)with
  |some i=>some (if ok then .tup [vi i,.bool true]else vi i)
  |none=>some (if ok then .tup [z,.bool false]else z):=by
 unfold lkV atM;simp only[isK,Z7L,Z7e,Z5h,Lq]
 grind [List.findIdx?_eq_some_iff_getElem,upto]
def HY{id:Nat}{l:List Int}{x:Int}(hx:x∉l):QY (.i .i64) (atM id l) (vi x) (vi l.length)=some (atM id (l++[x])):=by
 unfold QY atM;simp only[isK,Z7L,Z7e,Z5h,Lq,VE.2 hx];simp[upto,Z6D]
@[simp]def Z2e(id:Nat)(l:List Int):oneV (atM id l)=some (atM id l):=rfl
def yN{ns acc:List Int}{id:Nat}(hns:ns.length<=100000)(hacc:acc.length<=1000000):VCM Sol.prog 102 [.fz,.mem [.own 97],.mem [.own 3]] [.sl (ns.map vi),.agg [atM id acc],.agg [.sl (acc.map vi)]]
  (.tup [.tup [],.agg [atM id (ZJ acc ns)],.agg [.sl ((ZJ acc ns).map vi)]]):=by
 refine WS Sol.func102 follows Z2 c102 Z2 ?_;simp[p102];refine Yp (λt=>∃i l,i<=ns.length/\ZJ l (ns.drop i)=ZJ acc ns/\l.length<=1000000+i/\t=[.v (.sl (ns.map vi)),.m [atM id l],.m [.sl (l.map vi)],.v (vi (i:Nat)),.v (vi ns.length),.no,.no,.v (.sl (ns.map vi))]) (λt=>match get t 3 with|.v (.int _ n)=>ns.length-n.toNat|_=>0) ?_ ?_
 ·exact⟨0,acc,Z1,Z1,Z0,Z1⟩
 ·rintro t ⟨i,l,hi,hn,hl,rfl⟩;by_cases h:i<ns.length
  ·have hd:ns.drop i=ns[i]::ns.drop (i+1):=(Z5r h);rw[hd,ZJ]at hn;simp[h,Md];by_cases hm:ns[i]∈l
   ·have hsome:∃j,l.findIdx? (· ==ns[i])=some j:=by
     cases hj:l.findIdx? (· ==ns[i])with
     |none=>grind
     |some j=>simp
    obtain⟨j,hj⟩:=hsome;simp[hj,flV,V.flatc];simp(disch:=omega) only[Z7]
    grind
   ·simp[VE.2 hm,flV,V.flatc];simp(disch:=omega) only[Z7];by_cases h0:0<=ns[i]
    ·rw[if_pos h0,HY hm];rw[if_pos ⟨h0,hm⟩]at hn;simp;refine⟨by grind [lim],⟨i+1,Z0,l++[ns[i]],hn,Z3N,rfl,Z1,Z1⟩,Z0⟩
    grind
  ·have:i=ns.length:=Z0;simp_all[ZJ]
@[simp]def Z17(id:Nat)(l:List Int):(atM id l).cells=[atM id l]:=rfl
def Good(n:Nat)(l:List Int):Prop:=l.Nodup/\∀x∈l,0<=x/\x<n
def LQ:∀(n:Nat) {l:List Int},l.Nodup->(∀x∈l,0<=x/\x<n)->l.length<=n
 |0,l,_,h=>by
  cases l with
  |nil=>simp
  |cons x l=>have:=h x Z1;omega
 |n+1,l,hn,h=>by
  by_cases hm:(n:Int)∈l
  ·have h1:=LQ n (hn.erase (n:Int)) λx hx=>by
    have hx':=(hn.mem_erase_iff).1 hx;have:=h x hx'.2;omega
   rw[List.length_erase_of_mem hm]at h1;omega
  ·have:=LQ n hn λx hx=>by
    have h1:=h x hx;have:x≠n:=λe=>hm (e▸hx);omega
   omega
def Good.len{n:Nat}{l:List Int}(h:Good n l):l.length<=n:=LQ n h.1 h.2
def Yt{n:Nat}:∀ {ns acc:List Int},Good n acc->(∀x∈ns,x<n)->Good n (ZJ acc ns)
 | [],acc,h,_=>h
 |x::ns,acc,h,hx=>by
  simp only[ZJ];refine Yt ?_ λy hy=>hx y (by simp[hy]);split
  ·rename_i hc;refine⟨?_,λy hy=> ?_⟩
   ·rw[Z7n];exact⟨h.1,Z1,λa ha b hb=>by simp at hb;subst hb;exactλe=>hc.2 (e▸ha)⟩
   ·obtain hy|hy:=Z4R.1 hy
    ·exact h.2 y hy
    ·simp at hy;subst hy;exact⟨hc.1,hx _ Z1⟩
  ·exact h
def Y8(g:Gr):Nat->Nat->List Int->List Int
 |0,_,l=>l
 |f+1,i,l=>match l[i]? with
  |some x=>Y8 g f (i+1) (ZJ l ((g.nodes[x.toNat]?).getD default).ptrs)
  |none=>l
def order(g:Gr):List Int:=Y8 g (g.nodes.length+1) 0 (ZJ [] g.roots)
def Mb{n:Nat}{p:Int}(h:inR n p=true): -1<=p/\p<n:=by grind [inR]
def YD{g:Gr}(hr:right g=true):∀x∈g.roots,-1<=x/\x<g.nodes.length:=by
 simp only[right,Z4x,Z4D]at hr;exactλx hx=>Mb (hr.2 x hx)
def SN{g:Gr}(hr:right g=true):∀n∈g.nodes,∀x∈n.ptrs,-1<=x/\x<g.nodes.length:=by
 simp only[right,Z4x,Z4D,TF]at hr;exactλn hn x hx=>Mb ((hr.1.2 n hn).2 x hx)
def I9{g:Gr}(hg:g.sm)(hr:right g=true)(id:Nat)(ks vs:List V):
  wpS Sol.prog p80.body [.v (grV g),.v (.mp id ks vs)] (λs=>get s 4=.v (.sl ((order g).map vi))/\get s 3=.m [atM id (order g)]) (λ_ _=>False) (λs=>get s 4=.v (.sl ((order g).map vi))/\get s 3=.m [atM id (order g)]):=by
 obtain⟨hg1,hg2,hg3⟩:=hg;simp[p80];refine ZP (yN (ns:=g.roots) (acc:=[]) (id:=id) hg2 Z1) ?_;simp;have hroots:=YD hr;have hgood:Good g.nodes.length (ZJ [] g.roots):=Yt ⟨Z1,Z1⟩ λx hx=>(hroots x hx).2;refine Yp (λt=>∃i l,i<=l.length/\Good g.nodes.length l/\Y8 g (g.nodes.length+1-i) i l=order g/\t=[.v (grV g),.no,.m [.sl (g.nodes.map ndV),.sl (g.roots.map vi)],.m [atM id l],.v (.sl []),.m [.sl (l.map vi)],.no,.v (vi (i:Nat))]) (λt=>match get t 7 with|.v (.int _ n)=>g.nodes.length-n.toNat|_=>0) ?_ ?_
 ·exact⟨0,_,Z1,hgood,rfl,Z1⟩
 ·rintro t ⟨i,l,hi,hl,ho,rfl⟩;have hlen:=hl.len;by_cases h:i<l.length
  ·obtain⟨x0,x1⟩:=hl.2 _ (Z4J h);obtain⟨k,hk⟩:=Z4P x0;have hkl:k<g.nodes.length:=Z0;have hx:l[i]?=some (k:Int):=by rw[Z4u h,hk]
   simp[h,hk,hkl];refine ZP (yN (hg3 _ (Z4J hkl)).1 Z0) ?_;simp;simp(disch:=omega) only[Z7];have hgood':Good g.nodes.length (ZJ l g.nodes[k].ptrs):=Yt hl λx hx=>(SN hr _ (Z4J hkl) x hx).2;refine⟨⟨i+1,_,?_,hgood',?_,rfl,rfl,Z1⟩,Z0⟩
   ·have:∀ {ns acc:List Int},acc.length<=(ZJ acc ns).length:=by
     intro ns
     induction ns with
     |nil=>simp_all[ZJ]
     |cons y ns ih=>
      intro acc;simp only[ZJ]
      grind
    grind
   ·rw[show g.nodes.length+1-i=(g.nodes.length+1- (i+1))+1 by omega,Y8,hx]at ho;simp_all
  ·have:i=l.length:=Z0;subst this
   have hol:l=order g:=by
    rw[<-ho];cases hf:g.nodes.length+1-l.length with
    |zero=>omega
    |succ f=>simp[Y8]
   simp_all
def Fz{g:Gr}(hg:g.sm)(hr:right g=true)(id:Nat)(ks vs:List V):VCM Sol.prog 80 [.fz,.own 97] [grV g,.mp id ks vs] (.tup [.sl ((order g).map vi),atM id (order g)]):=by
 refine⟨Z2,λB w h us hok hA=> ?_⟩;obtain⟨hA1,hA2,hA3⟩:=hA;obtain⟨tk1,ht1,hr1⟩:=hA3 1 (.own 97) (.mp id ks vs) rfl rfl;simp only[argK,Z4s]at ht1;subst ht1;obtain⟨x1,hx1,hown⟩:=hr1;simp only[eval,Z4s]at hx1;subst hx1;obtain⟨_,_,hl,_⟩|⟨id',ks',vs',b,es,clk,he,hv,hbl,hB,hid,hh,h1,h2,h3,h4⟩:=hown
 ·cases hl
 cases he
 have hA':RelA Sol.prog B w h [.fz,.own 97] [grV g,.mp (b+1) ks vs] us:=by
  refine⟨rfl,hA2,λi k x hk hx=> ?_⟩
  match i,hk,hx with
  |0,hk,hx=>grind
  |1,hk,hx=>
   simp at hk hx;subst hk hx;exact⟨_,rfl,_,rfl,.inr ⟨b+1,ks,vs,b,es,clk,rfl,hv,hbl,hB,.inr rfl,hh,h1,h2,h3,h4⟩⟩
  |i+2,hk,hx=>simp at hk
 refine B4 (cf:=p80) (fin:=[(3,.mem [.own 97])]) (xs:=[grV g,.mp (b+1) ks vs]) (Rt:=λs=>get s 4=.v (.sl ((order g).map vi))/\get s 3=.m [atM (b+1) (order g)]) Sol.func80 follows c80 (I9 hg hr (b+1) ks vs) hok hA' λc s S a w' h' hP hix hix2 hres hRt hrel hnil hK hfrm hfin=> ?_;rw[<-hP]at hfin hres⊢;simp only[yT,Z4x,Z4D]at hfin;obtain⟨hfin1,hle⟩:=hfin;obtain⟨hrel2,hnil2⟩:=Tg hrel hnil hle;have hix3:c.ix 3=3:=hix2 3 (by decide)
 have hr:resV s (FU c.P c.ix Try.f80)=some (.sl ((order g).map vi)):=by
  rw[<-hres];simp[p80,hRt.1]
 obtain⟨v,hv',hvr⟩:=WM (D:=(h'.drop (UT S [(3,.mem [.own 97])])).F) hrel hnil (λb hb=>.inl hb) (λq hq=>by
  have h1:=hfin1 q hq;have h2:=Z4D.1 (Z2:Bz Try.f80 [(3,.mem [.own 97])]=true) q hq;refine⟨h1,λi b hb=>.inr ⟨VW q,i+1,?_,Z0,hb⟩⟩;simp_all[UT,Z7X,VW]) hr
 obtain⟨u,hu,b3,us3,T3,e1,e2,e3,e4,e5⟩:=hrel2.at_ 3 (by grind [Zh,Zb]) Z4r;obtain⟨X,hX,hown2⟩:=e5 0 (.own 97,.m (c.ix 3) 0) rfl
 have hXe:X=atM (b+1) (order g):=by
  simp only[eval,hix3,hRt.2]at hX;simpa using hX.symm
 subst hXe;obtain⟨_,_,hl,_⟩|⟨id2,ks2,vs2,b2,es2,clk2,he2,hv2,hbl2,hB2,hid2,hh2,q1,q2,q3,q4⟩:=hown2
 ·cases hl
 simp only[atM,V.mp.injEq]at he2;obtain⟨rfl,rfl,rfl⟩:=he2;have hbb:b2=b:=Z0;subst hbb;obtain⟨r1,r2,r3⟩:=hrel2.ok.b_lt 3 1 b2 hbl2
 refine⟨v,hv',v,.sl ((order g).map vi),[.bool false,atM id (order g)],{F:=(h'.drop (UT S [(3,.mem [.own 97])])).F,bl:=λt i=>if t=1/\i=1 then some b2 else none,K:=h'.K},rfl,hfrm.below,hfrm.same,
  ⟨hrel2.ok.base,hrel2.ok.f_lt,hrel2.ok.f_or,hrel2.ok.g_F,λt i x hx=> ?_,λt i t' i' x hx hx'=> ?_,hrel2.ok.k_lt,λt i x hx=> ?_,hrel2.ok.k_F⟩,hK,hvr,⟨rfl,λi k y hk hkz hy=> ?_⟩,rfl⟩
 ·grind
 ·grind
 ·simp only at hx;split at hx
  ·simp only[Z4s]at hx;subst hx;exact hrel2.ok.k_bl 3 1 b2 hbl2
  ·cases hx
 ·match i,hk,hy with
  |0,hk,hy=>grind
  |1,hk,hy=>
   simp at hk hy;subst hk hy;exact⟨_,rfl,_,rfl,.inr ⟨id,_,_,b2,es2,clk2,rfl,hv,Z1,hB,hid,hh2,q1,q2,q3,q4⟩⟩
  |i+2,hk,hy=>simp at hk
end Vm
namespace Vm
open Go Go.Proofs
def at0(l:List Int)(p:Int):Int:=match l.findIdx? (· ==p)with
 |some i=>(i:Nat)
 |none=>0
def YM(l ps:List Int):List Int:=ps.map λp=>if 0<=p then at0 l p else p
def Vy(g:Gr)(l:List Int)(x:Int):Nd:=let n:=(g.nodes[x.toNat]?).getD default;⟨YM l n.ptrs,n.data⟩
def ZT(g:Gr):Gr:=⟨(order g).map (Vy g (order g)),YM (order g) g.roots⟩
def Nt{id:Nat}{l:List Int}{x:Int}:lkV (.i .i64) (atM id l) (vi x) (vi 0) false=some (vi (at0 l x)):=by
 grind [Md,at0]
def N7{l:List Int}:∀c∈flat (l.map vi),c.flatc=true:=by
 intro c hc;simp only[flat,Z6o,Z4I]at hc;obtain⟨y,⟨a,_,rfl⟩,hc⟩:=hc;have:c=vi a:=by simpa[V.cells]using hc
 subst this;rfl
def Bk{ps l:List Int}{id:Nat}(hp:ps.length<=100000):VC Sol.prog 81 true [.sl (ps.map vi),atM id l] (.sl ((YM l ps).map vi)):=by
 refine IN (t:=4) (ty:=3) Sol.func81 follows Z2 rfl c81 rfl N7 ?_;simp[p81];refine Yp (λt=>∃i:Nat,i<=ps.length/\t=[.v (.sl (ps.map vi)),.v (atM id l),.v (.sl []),.v (.sl ((YM l (ps.take i)).map vi)),.v (vi i),.v (vi ps.length),.no,.no,.v (.sl (ps.map vi))]) (λt=>match get t 4 with|.v (.int _ n)=>ps.length-n.toNat|_=>0) ?_ ?_
 ·exact⟨0,Z1,by simp[YM]⟩
 ·rintro t ⟨i,hi,rfl⟩;by_cases h:i<ps.length
  ·have hx:ps[i]?=some ps[i]:=Z4u h
   have hstep:YM l (ps.take (i+1))=YM l (ps.take i)++[if 0<=ps[i]then at0 l ps[i]else ps[i]]:=by
    unfold YM;rw[Z5n,hx,Z5F];rfl
   have hlen:(YM l (ps.take i)).length<=100000:=by simp[YM];omega
   simp[h];simp(disch:=omega) only[Z7];by_cases h0:0<=ps[i]
   ·simp[h0,Nt];refine⟨Z3Y,⟨i+1,Z0,by rw[hstep];simp[h0],Z1⟩,Z0⟩
   ·simp[h0];refine⟨Z3Y,⟨i+1,Z0,by rw[hstep];simp[h0],Z1⟩,Z0⟩
  ·have:i=ps.length:=Z0;subst this;simp
def J5{g:Gr}(hr:right g=true):∀ {f i:Nat} {l:List Int},Good g.nodes.length l->Good g.nodes.length (Y8 g f i l)
 |0,i,l,h=>h
 |f+1,i,l,h=>by
  simp only[Y8];split
  ·rename_i x hx;refine J5 hr (Yt h λy hy=> ?_);obtain⟨x0,x1⟩:=h.2 x (Z4B hx);have hlt:x.toNat<g.nodes.length:=Z0;rw[Z4u hlt]at hy;exact(SN hr _ (Z4J hlt) y hy).2
  ·exact h
def Yu{g:Gr}(hr:right g=true):Good g.nodes.length (order g):=
 J5 hr (Yt ⟨Z1,Z1⟩ λx hx=>(YD hr x hx).2)
def Qo{g:Gr}(hg:g.sm)(hr:right g=true)(id:Nat)(ks vs:List V):VCM Sol.prog 47 [.fz,.own 97] [grV g,.mp id ks vs] (.tup [grV (ZT g),atM id (order g)]):=by
 refine WS Sol.func47 follows Z2 c47 Z2 ?_;simp[p47];refine ZP (Fz hg hr id ks vs) ?_;simp;obtain⟨hg1,hg2,hg3⟩:=hg;have hgood:=Yu hr;have hlen:=hgood.len;generalize ho:order g=l at hgood hlen;refine Yp (λt=>∃i:Nat,i<=l.length/\t=[.v (grV g),.v (atM id l),.m [.sl (g.nodes.map ndV),.sl (g.roots.map vi)],.m [.sl [],.sl []],.m [.sl (((l.take i).map (Vy g l)).map ndV),.sl []],.v (vi i),.v (vi l.length),.no,.no,.v (.sl (l.map vi))]) (λt=>match get t 5 with|.v (.int _ n)=>l.length-n.toNat|_=>0) ?_ ?_
 ·exact⟨0,Z1,Z1⟩
 ·rintro t ⟨i,hi,rfl⟩;by_cases h:i<l.length
  ·have hx:l[i]?=some l[i]:=Z4u h;obtain⟨x0,x1⟩:=hgood.2 _ (Z4J h);obtain⟨k,hk⟩:=Z4P x0;have hkl:k<g.nodes.length:=Z0;obtain⟨s1,s2⟩:=hg3 _ (Z4J hkl);simp[h,hk,hkl];refine Z4 (Bk s1) Z1 ?_;simp;simp(disch:=omega) only[Z7]
   have hnd:V.agg [V.sl (List.map vi (YM l g.nodes[k].ptrs)),V.sl (List.map vu g.nodes[k].data)]=ndV (Vy g l l[i]):=by
    simp[Vy,hk,hkl,ndV]
   refine⟨by grind [lim],by grind [lim],⟨i+1,Z0,?_,Z1⟩,Z0⟩;simp_all[Z5n,Z4M]
  ·have:i=l.length:=Z0;simp_all;refine Z4 (Bk hg2) Z1 ?_;simp_all[ZT,grV]
def Li{g:Gr}(hg:g.sm)(hr:right g=true):(ZT g).sm:=by
 obtain⟨hg1,hg2,hg3⟩:=hg;have hgood:=Yu hr;have hlen:=hgood.len;refine⟨by grind [ZT],by simp_all[ZT,YM],λn hn=> ?_⟩;simp only[ZT,Z4I]at hn;obtain⟨x,hx,rfl⟩:=hn;obtain⟨x0,x1⟩:=hgood.2 x hx;simp_all[Z4J,Vy,YM]
def noGr:Gr:=⟨[],[]⟩
def XC(g:Gr):V:=if right g=true then .tup [grV (ZT g),vi 0]else .tup [grV noGr,vi 1]
def GO{g:Gr}(hg:g.sm):VC Sol.prog 17 false [grV g] (XC g):=by
 refine Z8 Sol.func17 follows Z2 c17 rfl ?_;simp[p17];refine Z4 (TQ hg) Z1 ?_;cases hr:right g
 ·simp[XC,hr,noGr,grV]
 ·simp;refine ZP (Qo hg hr 0 [] []) ?_;simp_all[XC,grV]
def zw(a b:Gr):Bool:=right a&&right b&&decide (ZT a=ZT b)
def GM{a b:Gr}(ha:a.sm)(hb:b.sm):VC Sol.prog 24 false [grV a,grV b] (.bool (zw a b)):=by
 refine Z8 Sol.func24 follows Z2 c24 rfl ?_;simp[p24];refine Z4 (TQ ha) Z1 ?_;cases hra:right a
 ·simp[zw,hra]
 ·simp;refine Z4 (TQ hb) Z1 ?_;cases hrb:right b
  ·simp[zw,hrb]
  ·simp;refine ZP (Qo ha hra 0 [] []) ?_;simp;refine ZP (Qo hb hrb 0 _ _) ?_;have hsa:=Li ha hra;simp;refine Z4 (zP hsa.2.1) Z1 ?_;by_cases h:(ZT a).roots=(ZT b).roots
   ·simp[h];refine Z4 (zO hsa.1 hsa.2.2) Z1 ?_;simp_all[zw,ZT]
   ·simp[h,zw,hra,hrb]
    grind
def MG{a b:Gr}(ha:a.sm):VC Sol.prog 18 false [grV a,grV b] (.bool (decide (a=b))):=by
 refine Z8 Sol.func18 follows Z2 c18 rfl ?_;obtain⟨h1,h2,h3⟩:=ha;simp[p18];refine Z4 (EO h2) Z1 ?_;by_cases hr:a.roots=b.roots
 ·simp[hr];by_cases hl:a.nodes.length=b.nodes.length
  ·simp[hl];refine Yp (λt=>∃i:Nat,i<=b.nodes.length/\a.nodes.take i=b.nodes.take i/\t=[.v (grV a),.v (grV b),.m [.sl (a.nodes.map ndV),.sl (a.roots.map vi)],.m [.sl (b.nodes.map ndV),.sl (b.roots.map vi)],.v (.bool false),.v (.bool true),.v (.bool false),.v (vi i)]) (λt=>match get t 7 with|.v (.int _ n)=>b.nodes.length-n.toNat|_=>0) ?_ ?_
   ·exact⟨0,Z1,Z1,by simp[hr]⟩
   ·rintro t ⟨i,hi,heq,rfl⟩;by_cases h:i<b.nodes.length
    ·have h':i<a.nodes.length:=Z0;obtain⟨s1,s2⟩:=h3 _ (Z4J h');simp[h,h',hl];refine Z4 (EO s1) Z1 ?_;simp[h,h',hl];refine Z4 (NI (Z4Z s2 Z0)) Z1 ?_;by_cases hp:a.nodes[i].ptrs=b.nodes[i].ptrs
     ·by_cases hd:a.nodes[i].data=b.nodes[i].data
      ·simp[hp,hd];simp(disch:=omega) only[Z7]
       have hx:a.nodes[i]=b.nodes[i]:=by
        generalize a.nodes[i]=x at hp hd;generalize b.nodes[i]=y at hp hd;cases x;cases y;simp at hp hd;simp[hp,hd]
       grind [YX]
      ·simp[hp,hd]
       grind
     ·simp[hp]
      grind
    ·have:i=b.nodes.length:=Z0;subst this;rw[Z5D,Z52 Z0]at heq;simp[hl];cases a;simp_all
  ·simp[show ¬((a.nodes.length:Int)=(b.nodes.length:Int))by omega]
   grind
 ·simp[hr]
  grind
end Vm
namespace Vm
open Go Go.Proofs
end Vm
end
section
namespace Vm
open Go Go.Proofs
def g0:Gr:=⟨[⟨[],[]⟩,⟨[],[4]⟩,⟨[1],[]⟩,⟨[],[]⟩],[2,0]⟩
def g1:Gr:=⟨[],[0]⟩
def g2:Gr:=⟨[],[-1,-1]⟩
end Vm
end
section

end
section
namespace Vm
open Go Go.Proofs
def outs(g:Gr)(x:Int):List Int:=((g.nodes[x.toNat]?).getD default).ptrs
def Rg:∀(a:List Int) {acc b:List Int},ZJ acc (a++b)=ZJ (ZJ acc a) b
 | [],_,_=>rfl
 |x::a,acc,b=>by simp only[Z5M,ZJ];exact Rg a
def TH:∀(l:List Int) {acc:List Int},∃t,ZJ acc l=acc++t
 | [],acc=>⟨[],by simp[ZJ]⟩
 |x::l,acc=>by
  simp only[ZJ];obtain⟨t,ht⟩:=TH l (acc:=if 0<=x/\x∉acc then acc++[x]else acc);rw[ht];split
  ·exact⟨x::t,Z1⟩
  ·exact⟨t,rfl⟩
def X0:∀ {l acc:List Int} {x:Int},x∈ZJ acc l↔x∈acc\/(x∈l/\0<=x)
 | [],acc,x=>by simp[ZJ]
 |y::l,acc,x=>by
  simp only[ZJ,X0 (l:=l),Z4H];split
  ·rename_i h;simp only[Z4R,Z5x];constructor
   ·rintro((h1|rfl)|h1)
    ·exact .inl h1
    ·exact .inr ⟨.inl rfl,h.1⟩
    ·exact .inr ⟨.inr h1.1,h1.2⟩
   ·rintro(h1|⟨rfl|h1,h2⟩)
    ·exact .inl (.inl h1)
    ·exact .inl (.inr rfl)
    ·exact .inr ⟨h1,h2⟩
  ·rename_i h;constructor
   ·rintro(h1|h1)
    ·exact .inl h1
    ·exact .inr ⟨.inr h1.1,h1.2⟩
   ·rintro(h1|⟨rfl|h1,h2⟩)
    ·exact .inl h1
    ·exact .inl (by by_cases hx:x∈acc;exact hx;exact(h ⟨h2,hx⟩).elim)
    ·exact .inr ⟨h1,h2⟩
def VG{g:Gr}(hr:right g=true)(x:Int):∀y∈outs g x,-1<=y/\y<g.nodes.length:=by
 intro y hy;unfold outs at hy;cases hn:g.nodes[x.toNat]? with
 |none=>rw[hn]at hy;cases hy
 |some n=>rw[hn]at hy;exact SN hr n (Z4B hn) y hy
def Rh{g:Gr}(hr:right g=true):∀ {f i:Nat} {l:List Int},Good g.nodes.length l->i<=l.length->g.nodes.length<f+i->l=ZJ [] (g.roots++(l.take i).flatMap (outs g))->
  Y8 g f i l=ZJ [] (g.roots++(Y8 g f i l).flatMap (outs g))
 |0,i,l,hg,hi,hf,hl=>by have:=hg.len;omega
 |f+1,i,l,hg,hi,hf,hl=>by
  simp only[Y8];cases hx:l[i]? with
  |none=>
   have:l.length<=i:=by simpa using hx
   rw[Z52 this]at hl;exact hl
  |some x=>
   have hil:i<l.length:=by
    obtain h|h:=Z8w i l.length
    ·exact h
    ·rw[Z5w h]at hx;cases hx
   obtain⟨t,ht⟩:=TH (outs g x) (acc:=l);refine Rh hr (Yt hg λy hy=>(VG hr x y hy).2) ?_ Z0 ?_
   ·show i+1<=(ZJ l (outs g x)).length;rw[ht,Z5N];omega
   ·show ZJ l (outs g x)=ZJ [] (g.roots++((ZJ l (outs g x)).take (i+1)).flatMap (outs g));rw[ht,List.take_append_of_le_length Z0,Z5n,hx,<-ht];simp only[Z6h,Option.toList,<-Z5A];rw[Rg,<-hl];simp
def J6{g:Gr}(hr:right g=true):order g=ZJ [] (g.roots++(order g).flatMap (outs g)):=by
 refine Rh hr (Yt ⟨List.nodup_nil,Z1⟩ λy hy=>(YD hr y hy).2) (Z5H _) Z0 ?_;simp
end Vm
end
section
namespace Vm
open Go
open Go.Proofs
def p21:Fn:=⟨10,[0,1,2,8,3,12,11,13,5,10],
pQ [pR [(1,pS 0 2),pV 2 (pI 0)],pQ [pC [pK 10 19 [.mm 1 0 2]] [pV 3 (.un .not (.s 10))]] (.cond (.s 3) (pQ [pR [pV 2 (pI 0)]] .ret) .skip),pR [pV 4 (pI 0)],pQ [pR [pV 5 (pI 0),pV 6 (.len (.m 1 0)),pV 9 (.m 1 0)]] (.block 0 (.loop [0,1,2,3,4,5,6,9] (pQ [pR [pV 7 (.bin .lss (.s 5) (.s 6))],.cond (.s 7) .skip (.exit 0),.block 1 (pQ [pR [(8,pM (.flds (.idx (.s 9) (.s 5) 2) 0 2) 2)]] (pR [pV 4 (.bin .add (.s 4) (.bin .add (.bin .add (pI 1) (.len (.m 8 0))) (.len (.m 8 1))))]))] (pR [pV 5 (.bin .add (.s 5) (pI 1))])))),pR [pV 2 (.s 4)]] .ret,[(2,.v)]⟩
def c21:Zf Sol.prog fresh sig [.fz] [] Try.f21=some p21:=Z2
end Vm
end
section
namespace Vm
open Go Go.Proofs
def ndW(n:Nd):Nat:=1+n.ptrs.length+n.data.length
def wsum(l:List Nd):Nat:=(l.map ndW).sum
def words(g:Gr):Nat:=if right g=true then wsum g.nodes else 0
def GJ{l:List Nd}{i:Nat}{x:Nd}(h:l[i]?=some x):wsum (l.take (i+1))=wsum (l.take i)+ndW x:=by
 unfold wsum;rw[Z5n,h,Z5F,List.sum_append];simp
def Oq{l:List Nd}(h:∀n∈l,n.ptrs.length<=100000/\n.data.length<=100000)(i:Nat):wsum (l.take i)<=l.length*200001:=by
 have:∀ {l:List Nd},(∀n∈l,n.ptrs.length<=100000/\n.data.length<=100000)->wsum l<=l.length*200001:=by
  intro l
  induction l with
  |nil=>intro _;simp[wsum]
  |cons x l ih=>
   intro h;have h1:=ih λn hn=>h n (by simp[hn]);have h2:=h x Z1;have h3:ndW x<=200001:=by unfold ndW;omega
   have h4:wsum (x::l)=ndW x+wsum l:=by simp[wsum]
   rw[h4,Z5B,Z5P];omega
 refine Z4Z (this λn hn=>h n (Z5o hn)) (Z5a _ ?_);rw[Z5Q];omega
def GY{g:Gr}(hg:g.sm):VC Sol.prog 21 false [grV g] (vi (words g)):=by
 refine Z8 Sol.func21 follows Z2 c21 rfl ?_;simp[p21];refine Z4 (TQ hg) Z1 ?_;cases hr:right g
 ·simp[words,hr]
 ·obtain⟨hg1,hg2,hg3⟩:=hg;simp;refine Yp (λt=>∃i:Nat,i<=g.nodes.length/\t=[.v (grV g),.m [.sl (g.nodes.map ndV),.sl (g.roots.map vi)],.v (vi 0),.v (.bool false),.v (vi (wsum (g.nodes.take i):Nat)),.v (vi i),.v (vi g.nodes.length),.no,.no,.v (.sl (g.nodes.map ndV))]) (λt=>match get t 5 with|.v (.int _ n)=>g.nodes.length-n.toNat|_=>0) ?_ ?_
  ·exact⟨0,Z1,by simp[wsum]⟩
  ·rintro t ⟨i,hi,rfl⟩;by_cases h:i<g.nodes.length
   ·have hx:g.nodes[i]?=some g.nodes[i]:=Z4u h;obtain⟨h1,h2⟩:=hg3 _ (Z4J h);have hs:=GJ hx;have hle:=Oq hg3 (i+1);have hle2:g.nodes.length*200001<=100000*200001:=Z5a _ hg1;simp[h];generalize g.nodes[i]=x at*;have hw:=Z7 ((i:Int)+1) Z0 Z0;have hw1:=Z7 (1+(x.ptrs.length:Int)) Z0 Z0;have hw2:=Z7 (1+(x.ptrs.length:Int)+x.data.length) Z0 Z0;unfold ndW at hs;have hw3:=Z7 ((wsum (g.nodes.take i):Int)+(1+(x.ptrs.length:Int)+x.data.length)) Z0 Z0;simp[hw,hw1,hw2,hw3];exact⟨⟨i+1,Z0,by rw[hs];omega,Z1⟩,Z0⟩
   ·have:i=g.nodes.length:=Z0;subst this;simp[words,hr]
@[simp]def My{α β:Type}{f:α->β}{l:List α}:(l.map f).take l.length=l.map f:=Z52 (by simp)
end Vm
namespace Vm
open Go Go.Proofs
def RW{f:Int->Int}:∀ {o l:List Int},(∀x∈ZJ l o,∀y∈ZJ l o,f x=f y->x=y)->(∀x∈ZJ l o,0<=f x)->(∀x∈o,x<0->f x<0)->ZJ (l.map f) (o.map f)=(ZJ l o).map f
 | [],l,_,_,_=>rfl
 |y::o,l,hi,hp,hn=>by
  simp only[Z4T,ZJ];simp only[ZJ]at hi hp;by_cases hc:0<=y/\y∉l
  ·rw[if_pos hc]at hi hp⊢;have hy:y∈ZJ (l++[y]) o:=X0.2 (.inl Z1)
   have hc':0<=f y/\f y∉l.map f:=⟨hp y hy,λhm=>by
    obtain⟨z,hz,he⟩:=Z4I.1 hm;have:=hi z (X0.2 (.inl (by simp[hz]))) y hy he;subst this;exact hc.2 hz⟩
   rw[if_pos hc',show l.map f++[f y]=(l++[y]).map f by simp];exact RW hi hp λx hx=>hn x (by simp[hx])
  ·rw[if_neg hc]at hi hp⊢
   have hc':¬(0<=f y/\f y∉l.map f):=by
    rintro⟨h1,h2⟩;by_cases h0:0<=y
    ·exact h2 (Z4I.2 ⟨y,by by_cases hy:y∈l;exact hy;exact(hc ⟨h0,hy⟩).elim,rfl⟩)
    ·have:=hn y Z1 Z0;omega
   rw[if_neg hc'];exact RW hi hp λx hx=>hn x (by simp[hx])
def SG{g:Gr}:∀ {F i:Nat} {l:List Int},∃t,Y8 g F i l=l++t
 |0,i,l=>⟨[],by simp[Y8]⟩
 |F+1,i,l=>by
  simp only[Y8];cases l[i]? with
  |none=>exact⟨[],Z1⟩
  |some x=>
   obtain⟨t,ht⟩:=TH ((g.nodes[x.toNat]?).getD default).ptrs (acc:=l);obtain⟨t',ht'⟩:=SG (g:=g) (F:=F) (i:=i+1) (l:=ZJ l ((g.nodes[x.toNat]?).getD default).ptrs);refine⟨t++t',?_⟩;show Y8 g F (i+1) (ZJ l ((g.nodes[x.toNat]?).getD default).ptrs)=_;rw[ht',ht,Z5A]
def UX{g:Gr}(hr:right g=true):∀ {F i:Nat} {l:List Int} (k:Nat),Good g.nodes.length l->g.nodes.length<F+i->Y8 g (F+k) i l=Y8 g F i l
 |0,i,l,k,hg,hf=>by
  have:=hg.len;cases k with
  |zero=>rfl
  |succ k=>
   simp only[Z5g,Y8];rw[Z5w Z0]
 |F+1,i,l,k,hg,hf=>by
  rw[show F+1+k=(F+k)+1 by omega];simp only[Y8];cases hx:l[i]? with
  |none=>rfl
  |some x=>
   exact UX hr k (Yt hg λy hy=>(VG hr x y hy).2) Z0
def KS{g h:Gr}{f:Int->Int}(hnode:∀x∈order g,(h.nodes[(f x).toNat]?).map (·.ptrs)=some ((outs g x).map f))(hneg:∀x∈order g,∀y∈outs g x,y<0->f y<0)(hinj:∀x∈order g,∀y∈order g,f x=f y->x=y)(hpos:∀x∈order g,0<=f x):
  ∀ {F i:Nat} {l:List Int},(∀x∈Y8 g F i l,x∈order g)->Y8 h F i (l.map f)=(Y8 g F i l).map f
 |0,i,l,_=>rfl
 |F+1,i,l,hm=>by
  simp only[Y8,Z4M];simp only[Y8]at hm;cases hx:l[i]? with
  |none=>rfl
  |some x=>
   rw[hx]at hm;simp only[Z4K];simp only at hm
   have hxo:x∈order g:=by
    obtain⟨t,ht⟩:=TH ((g.nodes[x.toNat]?).getD default).ptrs (acc:=l);obtain⟨t',ht'⟩:=SG (g:=g) (F:=F) (i:=i+1) (l:=ZJ l ((g.nodes[x.toNat]?).getD default).ptrs);refine hm x ?_;rw[ht',ht];simp[Z4B hx]
   have hn:=hnode x hxo;cases hh:h.nodes[(f x).toNat]? with
   |none=>rw[hh]at hn;cases hn
   |some nd=>
    rw[hh]at hn;simp only[Z4K,Z4s]at hn;simp only[Z4W,hn]
    have hsub:∀y∈ZJ l (outs g x),y∈order g:=λy hy=>by
     obtain⟨t',ht'⟩:=SG (g:=g) (F:=F) (i:=i+1) (l:=ZJ l (outs g x));refine hm y ?_;show y∈Y8 g F (i+1) (ZJ l (outs g x));rw[ht'];simp[hy]
    rw[RW (λa ha b hb=>hinj a (hsub a ha) b (hsub b hb)) (λa ha=>hpos a (hsub a ha)) (hneg x hxo)];exact KS hnode hneg hinj hpos hm
def WF{g:Gr}(hr:right g=true){x:Int}(hx:x∈g.roots)(h0:0<=x):x∈order g:=by
 rw[J6 hr,X0];exact .inr ⟨by simp[hx],h0⟩
def LG{g:Gr}(hr:right g=true){x y:Int}(hx:x∈order g)(hy:y∈outs g x)(h0:0<=y):y∈order g:=by
 rw[J6 hr,X0];exact .inr ⟨Z8t _ (Z6o.2 ⟨x,hx,hy⟩),h0⟩
def MJ{L:List Int}{f:Int->Int}{p:Int}(hinj:∀x∈L,f x=f p->x=p):at0 (L.map f) (f p)=at0 L p:=by
 unfold at0;rw[List.findIdx?_map]
 have:L.findIdx? ((λx=>x==f p)∘f)=L.findIdx? (λx=>x==p):=by
  induction L with
  |nil=>rfl
  |cons a L ih=>
   simp only[Z7f,Function.comp]
   have h1:(f a==f p)=(a==p):=by
    rw[Z8l];simp only[Z59];exact⟨hinj a Z1,λe=>by rw[e]⟩
   have h2:=ih λx hx=>hinj x (by simp[hx]);simp only[h1];rw[h2]
 rw[this]
def zH{g h:Gr}(hg:right g=true)(hh:right h=true)(f:Int->Int)(hf:f (-1)= -1)(hinj:∀x∈order g,∀y∈order g,f x=f y->x=y)(hpos:∀x∈order g,0<=f x)
  (hroots:h.roots=g.roots.map f) (hnodes:∀x∈order g,h.nodes[(f x).toNat]?=some ⟨(outs g x).map f,((g.nodes[x.toNat]?).getD default).data⟩):
  order h=(order g).map f/\ZT h=ZT g:=by
 have hm1:∀x:Int,-1<=x->x<0->f x=x:=λx h1 h2=>by
  have:x= -1:=Z0;subst this;exact hf
 have hnode':∀x∈order g,(h.nodes[(f x).toNat]?).map (·.ptrs)=some ((outs g x).map f):=λx hx=>by rw[hnodes x hx];rfl
 have ho:order h=(order g).map f:=by
  have hgood0:Good g.nodes.length (ZJ [] g.roots):=Yt ⟨Z1,Z1⟩ λx hx=>(YD hg x hx).2;have hgood1:Good h.nodes.length (ZJ [] h.roots):=Yt ⟨Z1,Z1⟩ λx hx=>(YD hh x hx).2;have h1:=UX hg (F:=g.nodes.length+1) (i:=0) (h.nodes.length) hgood0 Z0;have h2:=UX hh (F:=h.nodes.length+1) (i:=0) (g.nodes.length) hgood1 Z0;have h3:=KS (f:=f) hnode' (λx hx y hy h0=>by rw[hm1 y (VG hg x y hy).1 h0];exact h0) hinj hpos (F:=g.nodes.length+1+h.nodes.length) (i:=0) (l:=ZJ [] g.roots) (λx hx=>by rw[h1]at hx;exact hx)
  have h4:ZJ [] h.roots=(ZJ [] g.roots).map f:=by
   rw[hroots];refine RW (l:=[]) (λx hx y hy=> ?_) (λx hx=> ?_) (λx hx h0=> ?_)
   ·rw[X0]at hx hy;simp at hx hy;exact hinj x (WF hg hx.1 hx.2) y (WF hg hy.1 hy.2)
   ·rw[X0]at hx;simp at hx;exact hpos x (WF hg hx.1 hx.2)
   ·rw[hm1 x (YD hg x hx).1 h0];exact h0
  unfold order;rw[<-h2,<-h1,h4,<-h3];congr 1;omega
 refine⟨ho,?_⟩
 have hmoved:∀ps:List Int,(∀p∈ps,-1<=p/\(0<=p->p∈order g))->YM (order h) (ps.map f)=YM (order g) ps:=by
  intro ps hps;unfold YM;rw[Z6F];refine Z6J λp hp=> ?_;obtain⟨h1,h2⟩:=hps p hp;simp only[Function.comp];by_cases h0:0<=p
  ·rw[if_pos (hpos p (h2 h0)),if_pos h0,ho];exact MJ λx hx he=>hinj x hx p (h2 h0) he
  ·rw[hm1 p h1 Z0];rw[if_neg h0,if_neg h0]
 unfold ZT;congr 1
 ·rw[ho,Z6F];refine Z6J λx hx=> ?_;simp only[Function.comp,Vy,hnodes x hx,Z4W];congr 1;rw[<-ho];exact hmoved _ λp hp=>⟨(VG hg x p hp).1,λh0=>LG hg hx hp h0⟩
 ·rw[hroots];exact hmoved _ λp hp=>⟨(YD hg p hp).1,λh0=>WF hg hp h0⟩
def UM{L:List Int}{x:Int}(h:x∈L):0<=at0 L x/\at0 L x<L.length/\L[(at0 L x).toNat]?=some x:=by
 unfold at0;cases hf:L.findIdx? (· ==x)with
 |none=>exact(VE.1 hf h).elim
 |some i=>
  obtain⟨h1,h2,_⟩:=Z5l.1 hf;simp only[Z59]at h2;refine⟨Z1,by simpa using h1,?_⟩;simp[h1,h2]
def XA(g:Gr)(x:Int):Int:=if 0<=x then at0 (order g) x else x
def JB{g:Gr}(hr:right g=true):∀x∈order g,∀y∈order g,XA g x=XA g y->x=y:=by
 intro x hx y hy he;obtain⟨x0,_⟩:=(Yu hr).2 x hx;obtain⟨y0,_⟩:=(Yu hr).2 y hy;unfold XA at he;rw[if_pos x0,if_pos y0]at he;have h1:=(UM hx).2.2;have h2:=(UM hy).2.2;rw[he,h2]at h1;cases h1;rfl
def Vk{g:Gr}(hr:right g=true):right (ZT g)=true:=by
 have hgood:=Yu hr
 have hin:∀ps:List Int,(∀p∈ps,-1<=p/\(0<=p->p∈order g))->∀q∈YM (order g) ps,inR (ZT g).nodes.length q=true:=by
  intro ps hps q hq;obtain⟨p,hp,rfl⟩:=Z4I.1 hq;obtain⟨h1,h2⟩:=hps p hp;have hl:(ZT g).nodes.length=(order g).length:=by simp[ZT]
  rw[hl];simp only[inR,Z4N];split
  ·rename_i h0;have:=UM (h2 h0);omega
  ·omega
 simp only[right,Z4x,Z4D,Z4N];have hr':=hr;simp only[right,Z4x,Z4D,Z4N]at hr';refine⟨⟨by simpa[ZT,YM]using hr'.1.1,λnd hnd=> ?_⟩,hin _ λp hp=>⟨(YD hr p hp).1,λh0=>WF hr hp h0⟩⟩;simp only[ZT,Z4I]at hnd;obtain⟨x,hx,rfl⟩:=hnd;have hx':=hgood.2 x hx;have hlt:x.toNat<g.nodes.length:=Z0;have h3:=hr'.1.2 _ (Z4J hlt);simp only[TF,Z4x,Z4N,Z4D]at h3⊢;refine⟨by simpa[Vy,hlt,YM]using h3.1,?_⟩;exact hin _ λp hp=>⟨(VG hr x p hp).1,λh0=>LG hr hx hp h0⟩
def ja{g:Gr}(hr:right g=true):ZT (ZT g)=ZT g:=by
 refine(zH hr (Vk hr) (XA g) (by simp[XA]) (JB hr) (λx hx=> ?_) rfl (λx hx=> ?_)).2
 ·unfold XA;rw[if_pos ((Yu hr).2 x hx).1];exact(UM hx).1
 ·have h0:=((Yu hr).2 x hx).1;have:(XA g x)=at0 (order g) x:=if_pos h0;rw[this];simp only[ZT,Z4M,(UM hx).2.2,Z4K];rfl
end Vm
end
section

end
section
namespace Vm
open Go Go.Proofs
structure Fo where
 ob:Ob
 ad:Int
 sl:List Int
 deriving Inhabited
def foV(f:Fo):V:=.agg [vi f.ob.at_,vi f.ob.size,vi f.ob.ptrs,.bool f.ob.gone,vu f.ob.target,vu f.ad,.sl (f.sl.map vu)]
@[simp]def i5(f:Fo):(foV f).cells=[vi f.ob.at_,vi f.ob.size,vi f.ob.ptrs,.bool f.ob.gone,vu f.ob.target,vu f.ad,.sl (f.sl.map vu)]:=rfl
@[simp]def Z2z(f:Fo):szV (foV f) 7=some (foV f):=rfl
@[simp]def f7(f:Fo):Ry (foV f) 0 7=some (foV f):=rfl
@[simp]def Pr(f:Fo):fldV (foV f) 0=some (vi f.ob.at_):=rfl
@[simp]def Ps(f:Fo):fldV (foV f) 1=some (vi f.ob.size):=rfl
@[simp]def Pt(f:Fo):fldV (foV f) 2=some (vi f.ob.ptrs):=rfl
@[simp]def Pu(f:Fo):fldV (foV f) 3=some (.bool f.ob.gone):=rfl
@[simp]def Pv(f:Fo):fldV (foV f) 4=some (vu f.ob.target):=rfl
@[simp]def Pw(f:Fo):fldV (foV f) 5=some (vu f.ad):=rfl
@[simp]def Px(f:Fo):fldV (foV f) 6=some (.sl (f.sl.map vu)):=rfl
@[simp]def Oz(l:List Fo):Ya 7 (l.map foV)=true:=XM λ_=>rfl
structure Vw where
 ns:List Fo
 nm:List (Int×Int)
 tm:List (Int×Int)
 deriving Inhabited
def Vw.put(s:Vw)(f:Fo):Vw:=if f.ob.gone then {s with tm:=putA s.tm f.ad f.ob.target}else {s with ns:=s.ns++[f],nm:=putA s.nm f.ad s.ns.length}
def Vw.toA(s:Vw)(w:Int):Int:=if w=0 then-1 else(getA s.nm ((getA s.tm (adr w).1).getD (adr w).1)).getD 0
def ndF(s:Vw)(f:Fo):Nd:=⟨(f.sl.take f.ob.ptrs.toNat).map s.toA,f.sl.drop f.ob.ptrs.toNat⟩
def Vw.gr(s:Vw)(roots:List Int):Gr:=⟨s.ns.map (ndF s),roots.map s.toA⟩
def IX(s:Vw){ws:List Int}(hl:ws.length<=1000000)(hu:∀w∈ws,U64 w):
  VCM Sol.prog 43 [.fz,.mem [.fz],.mem [.fz]] [.sl (ws.map vu),.agg [mpA vu s.tm],.agg [mpA vi s.nm]] (.tup [.sl ((ws.map s.toA).map vi),.agg [mpA vu s.tm],.agg [mpA vi s.nm]]):=by
 refine WS Sol.func43 follows Z2 cTo Z2 ?_;simp[pTo];refine Xb 5 ws.length (λi=>[(4,.v (.sl (((ws.take i).map s.toA).map vi))),(5,.v (vi i))]) (λ_=>True) Z1 Z1 trivial ?_;intro i hi _;by_cases h:i<ws.length
 ·have hx:ws[i]?=some ws[i]:=Z4u h;have hU:=hu _ (Z4J h);have hw:=Z7 ((i:Int)+1) Z0 Z0
  have htk:List.take (i+1) (List.map (vi∘s.toA) ws)=List.take i (List.map (vi∘s.toA) ws)++[vi (s.toA ws[i])]:=by
   rw[Z5n,Z4M,hx];rfl
  have hlim:min i ws.length+1<=lim:=by unfold lim;omega
  simp[h,hw,htk,hlim];split
  ·rename_i h0;simp[Vw.toA,h0]
  ·rename_i h0;refine Z4 (zu hU) Z1 ?_;have e1:=jM (f:=vu) (l:=s.tm) (k:=(adr ws[i]).1) (z:=.int .u64 0) (ok:=true);cases h1:getA s.tm (adr ws[i]).1 with
   |none=>
    rw[h1]at e1;have e2:=jM (f:=vi) (l:=s.nm) (k:=(adr ws[i]).1) (z:=.int .i64 0) (ok:=false);cases h2:getA s.nm (adr ws[i]).1 with
    |none=>rw[h2]at e2;simp[e1,e2,Vw.toA,h0,h1,h2,hw,hlim]
    |some t=>rw[h2]at e2;simp[e1,e2,Vw.toA,h0,h1,h2,hw,hlim]
   |some u=>
    rw[h1]at e1;have e2:=jM (f:=vi) (l:=s.nm) (k:=u) (z:=.int .i64 0) (ok:=false);cases h2:getA s.nm u with
    |none=>rw[h2]at e2;simp[e1,e2,Vw.toA,h0,h1,h2,hw,hlim]
    |some t=>rw[h2]at e2;simp[e1,e2,Vw.toA,h0,h1,h2,hw,hlim]
 ·have:i=ws.length:=Z0;subst this;simp
def Z2u{s:St}{st:Vw}{f:Fo}{N R:St->Prop}{X:Nat->St->Prop}(h6:get s 6=.v (.sl (st.ns.map foV)))(h7:get s 7=.m [mpA vi st.nm])(h8:get s 8=.m [mpA vu st.tm])(h12:get s 12=.v (.tup [foV f,.bool true]))(h10:get s 10=.v (.bool true))(hl:st.ns.length<=4000000)
  (hN:∀s',get s' 6=.v (.sl ((st.put f).ns.map foV))->get s' 7=.m [mpA vi (st.put f).nm]->get s' 8=.m [mpA vu (st.put f).tm]->get s' 1=get s 1->get s' 2=get s 2->get s' 3=get s 3->N s'):wpS Sol.prog rD s N X R:=by
 have e1:=QZ (f:=vu) (l:=st.tm) (k:=f.ad) (x:=f.ob.target);have e2:=QZ (f:=vi) (l:=st.nm) (k:=f.ad) (x:=(st.ns.length:Int));have hlim:st.ns.length+1<=lim:=by unfold lim;omega
 cases hg:f.ob.gone
 ·simp[rD,h10,h12,Zk,hg,h6,h7,h8,e2,hlim];refine hN _ ?_ ?_ ?_ ?_ ?_ ?_ <;>simp[Vw.put,hg,h8,Zk]<;>simp[foV,hg]
 ·simp[rD,h10,h12,Zk,hg,h6,h7,h8,e1];refine hN _ ?_ ?_ ?_ ?_ ?_ ?_ <;>simp[Vw.put,hg,h6,h7,Zk]
def Z0o{s:St}{N R:St->Prop}{X:Nat->St->Prop}(h10:get s 10=.v (.bool false))(hX:X 0 s):wpS Sol.prog rD s N X R:=by
 simp[rD,h10,hX]
structure Vw.sm (st:Vw) (roots:List Int):Prop where
 n:st.ns.length<=100000
 f:∀f∈st.ns,0<=f.ob.ptrs/\f.ob.ptrs<=f.sl.length/\f.sl.length<=100000/\∀w∈f.sl,U64 w
 r:roots.length<=100000/\∀w∈roots,U64 w
def Vw.sm.gr{st:Vw}{roots:List Int}(h:st.sm roots):(st.gr roots).sm:=by
 refine⟨by simpa[Vw.gr]using h.n,by simpa[Vw.gr]using h.r.1,λn hn=> ?_⟩;simp only[Vw.gr,Z4I]at hn;obtain⟨f,hf,rfl⟩:=hn;obtain⟨_,_,h3,_⟩:=h.f f hf;simp only[ndF,Z56,Z5Q,Z6M];omega
def Z2t{s:St}{st:Vw}{roots:List Int}{b c t y sc:V}{x5 x6 x7 x8:V}{N R:St->Prop}{X:Nat->St->Prop}(hs:st.sm roots)(h1:get s 1=.m [b,c,t,y,sc,x5,x6,x7,x8,.sl (roots.map vu)])(h6:get s 6=.v (.sl (st.ns.map foV)))(h7:get s 7=.m [mpA vi st.nm])(h8:get s 8=.m [mpA vu st.tm])
  (hR:∀s',resV s' [(2,.ag 2),(3,.v)]=some (XC (st.gr roots))->R s'):wpS Sol.prog rC s N X R:=by
 simp[rC,h6,Zk];refine Xb 16 st.ns.length (λi=>[(15,.m [.sl (((st.ns.take i).map (ndF st)).map ndV),.sl []]),(16,.v (vi i))]) (λ_=>True) (by simp[Zk]) (by simp[Zk]) trivial ?_;intro i hi _;by_cases h:i<st.ns.length
 ·have hx:st.ns[i]?=some st.ns[i]:=Z4u h;obtain⟨p0,p1,p2,p3⟩:=hs.f _ (Z4J h);have hn:=hs.n;obtain⟨P,hP⟩:=Z4P p0;have hPl:P<=st.ns[i].sl.length:=Z0;have hw:=Z7 ((i:Int)+1) Z0 Z0
  have htk:List.take (i+1) (List.map (ndV∘ndF st) st.ns)=List.take i (List.map (ndV∘ndF st) st.ns)++[ndV (ndF st st.ns[i])]:=by
   rw[Z5n,Z4M,hx];rfl
  have hto:=IX st (ws:=st.ns[i].sl.take P) Z3N λw hw=>p3 w (Z5o hw);have hlim:min i st.ns.length+1<=lim:=by unfold lim;omega
  simp[Zk,h,h1,h6,h7,h8,hP,slcV,hPl];rw[List.map_take]at hto;refine ZP hto ?_;simp[Zk,At,hPl,hw,htk,hlim,hP,ndF,ndV]
 ·have:i=st.ns.length:=Z0;subst this;simp[Zk,h1,h6,h7,h8];refine ZP (IX st (ws:=roots) (by have:=hs.r.1;omega) hs.r.2) ?_;simp;have hc:=GO hs.gr;simp only[Vw.gr,grV,Z6F]at hc;refine Z4 hc Z1 ?_;have he:XC (st.gr roots)=XC {nodes:=List.map (ndF st) st.ns,roots:=List.map st.toA roots}:=rfl;rw[he]at hR;generalize ({nodes:=List.map (ndF st) st.ns,roots:=List.map st.toA roots}:Gr)=g at*;unfold XC at hR⊢;split
  ·rename_i hg;rw[if_pos hg]at hR;simp;refine hR _ ?_;simp[resV,TO,Jl,grV]
  ·rename_i hg;rw[if_neg hg]at hR;simp[noGr,grV];refine hR _ ?_;simp[resV,TO,Jl,noGr,grV]
end Vm
end
section
namespace Vm
open Go Go.Proofs Go.RowKit Go.Conc
def OQ{t:Array Value}(h:t.size=71):t=#[t.getD 0 undef,t.getD 1 undef,t.getD 2 undef,t.getD 3 undef,t.getD 4 undef,t.getD 5 undef,t.getD 6 undef,t.getD 7 undef,t.getD 8 undef,t.getD 9 undef,t.getD 10 undef,t.getD 11 undef,t.getD 12 undef,t.getD 13 undef,t.getD 14 undef,t.getD 15 undef,t.getD 16 undef,t.getD 17 undef,t.getD 18 undef,t.getD 19 undef,t.getD 20 undef,t.getD 21 undef,t.getD 22 undef,t.getD 23 undef,t.getD 24 undef,t.getD 25 undef,t.getD 26 undef,t.getD 27 undef,t.getD 28 undef,t.getD 29 undef,t.getD 30 undef,t.getD 31 undef,t.getD 32 undef,t.getD 33 undef,t.getD 34 undef,t.getD 35 undef,t.getD 36 undef,t.getD 37 undef,t.getD 38 undef,t.getD 39 undef,t.getD 40 undef,t.getD 41 undef,t.getD 42 undef,t.getD 43 undef,t.getD 44 undef,t.getD 45 undef,t.getD 46 undef,t.getD 47 undef,t.getD 48 undef,t.getD 49 undef,t.getD 50 undef,t.getD 51 undef,t.getD 52 undef,t.getD 53 undef,t.getD 54 undef,t.getD 55 undef,t.getD 56 undef,t.getD 57 undef,t.getD 58 undef,t.getD 59 undef,t.getD 60 undef,t.getD 61 undef,t.getD 62 undef,t.getD 63 undef,t.getD 64 undef,t.getD 65 undef,t.getD 66 undef,t.getD 67 undef,t.getD 68 undef,t.getD 69 undef,t.getD 70 undef]:=by
 refine Z7Y Z0 λi h1 h2=> ?_;have h2':i<71:=by simpa using h2
 have e:t[i]=t.getD i undef:=by simp[Array.getD,h1]
 rw[e]
 revert h2
 match i,h2' with
 |0,_=>simp
 |1,_=>simp
 |2,_=>simp
 |3,_=>simp
 |4,_=>simp
 |5,_=>simp
 |6,_=>simp
 |7,_=>simp
 |8,_=>simp
 |9,_=>simp
 |10,_=>simp
 |11,_=>simp
 |12,_=>simp
 |13,_=>simp
 |14,_=>simp
 |15,_=>simp
 |16,_=>simp
 |17,_=>simp
 |18,_=>simp
 |19,_=>simp
 |20,_=>simp
 |21,_=>simp
 |22,_=>simp
 |23,_=>simp
 |24,_=>simp
 |25,_=>simp
 |26,_=>simp
 |27,_=>simp
 |28,_=>simp
 |29,_=>simp
 |30,_=>simp
 |31,_=>simp
 |32,_=>simp
 |33,_=>simp
 |34,_=>simp
 |35,_=>simp
 |36,_=>simp
 |37,_=>simp
 |38,_=>simp
 |39,_=>simp
 |40,_=>simp
 |41,_=>simp
 |42,_=>simp
 |43,_=>simp
 |44,_=>simp
 |45,_=>simp
 |46,_=>simp
 |47,_=>simp
 |48,_=>simp
 |49,_=>simp
 |50,_=>simp
 |51,_=>simp
 |52,_=>simp
 |53,_=>simp
 |54,_=>simp
 |55,_=>simp
 |56,_=>simp
 |57,_=>simp
 |58,_=>simp
 |59,_=>simp
 |60,_=>simp
 |61,_=>simp
 |62,_=>simp
 |63,_=>simp
 |64,_=>simp
 |65,_=>simp
 |66,_=>simp
 |67,_=>simp
 |68,_=>simp
 |69,_=>simp
 |70,_=>simp
 |i+71,h=>omega
def sliV(v:Value)(lo n:Nat):Value:=match v with
 |.slice (some ⟨b,o,q⟩) _ c=>.slice (some (if c=lo then⟨b,o,q⟩else⟨b,o+lo,q⟩)) n (c-lo)
 |v=>v
def fvV(h:Hp)(x:Nat->Value)(p:Nat)(o:Ob):Value:=.agg #[.int .i64 o.at_,.int .i64 o.size,.int .i64 o.ptrs,.bool o.gone,.int .u64 o.target,.int .u64 (ZG (layH h) ((p:Int)+1) o.at_).1,sliV (x p) (o.at_+1).toNat o.size.toNat]
def obP(h:Hp)(p:Nat):List Ob:=(Uz h ((p:Int)+1)).1
def fvs(h:Hp)(x:Nat->Value):Nat->Nat->List Value
 |0,_=>[]
 |n+1,p=>(obP h p).map (fvV h x p)++fvs h x n (p+1)
noncomputable def seC:Code:=match Try.f42.body with|some c=>c|none=>.skip
noncomputable def clOps:Array Oper:=Fx (cAt seC [1,1,1])
def AtCl(c:Nat)(b:Frame)(cs0:List Frame)(fr:Frame)(cs:List Frame)(w:World):Prop:=cs=cs0/\∃a,fr=b.at a [.inRegion clOps [1]]/\a.tmps[70]?=some (.chan (some c))/\a.defers=[]
def Z0p{w:World}{G:Nat->Prop}{h:Hp}{x:Nat->Value}(hr:∀j,j<5->Rd w G (.sl ((lsH h j).map vu)) (x j)):Rd w G (hpV h) (hpA h x):=by
 refine .agg _ _ rfl Z1 ?_;intro i y hy
 match i,hy with
 |0,hy=>cases hy;exact .int _ _
 |1,hy=>cases hy;exact .int _ _
 |2,hy=>cases hy;exact .int _ _
 |3,hy=>cases hy;exact .bool _
 |4,hy=>cases hy;exact .int _ _
 |5,hy=>cases hy;exact hr 0 Z0
 |6,hy=>cases hy;exact hr 1 Z0
 |7,hy=>cases hy;exact hr 2 Z0
 |8,hy=>cases hy;exact hr 3 Z0
 |9,hy=>cases hy;exact hr 4 Z0
def BX{w:World}{G:Nat->Prop}{h:Hp}(hh:h.ok){x:Nat->Value}(hG:∀b,G b->b<w.heap.size)(hr:∀j,j<5->Rd w G (.sl ((lsH h j).map vu)) (x j))(p:Int):
  Calls Sol.prog 27 #[hpA h x,.int .i64 p] w λe w'=>∃s,e=.returned (.tuple #[s,.int .i64 (Uz h p).2])/\Below w.heap.size w w'/\Rd w' (λb=>b<w'.heap.size) (.sl ((Uz h p).1.map obV)) s:=by
 refine Z7Z ((OJ hh (k:=p)).2 w G _ hG rfl ?_) ?_
 ·intro i y hy
  match i,hy with
  |0,hy=>cases hy;exact Z0p hr
  |1,hy=>cases hy;exact .int _ _
 ·rintro e w' ⟨v,rfl,hb,hv⟩;cases hv with
  |tup _ vs h1 h2=>
   have e1:=h2 0 _ rfl;have e2:=Vf (h2 1 _ rfl);simp only[Z5B,Z6j]at h1;refine⟨vs.getD 0 undef,?_,hb,e1.mono λb hb'=> ?_⟩
   ·congr 2;refine Z7Y (by simpa using h1) λi q1 q2=> ?_;have:i=0\/i=1:=by simp at q2;omega
    obtain rfl|rfl:=this
    ·simp[Array.getD,q1]
    ·simp[Array.getD,q1]at e2;simpa using e2
   ·obtain⟨_,hb'⟩|hb':=hb'
    ·exact Z4F (hG b hb') hb.size
    ·exact hb'.2
def u71(a b:Value):(#[a,b]:Array Value)++Array.replicate (71- (#[a,b]:Array Value).size) undef=#[a,b,undef,undef,undef,undef,undef,undef,undef,undef,undef,undef,undef,undef,undef,undef,undef,undef,undef,undef,undef,undef,undef,undef,undef,undef,undef,undef,undef,undef,undef,undef,undef,undef,undef,undef,undef,undef,undef,undef,undef,undef,undef,undef,undef,undef,undef,undef,undef,undef,undef,undef,undef,undef,undef,undef,undef,undef,undef,undef,undef,undef,undef,undef,undef,undef,undef,undef,undef,undef,undef]:=Z2
structure SSt (w:World) (h:Hp) (x:Nat->Value) (b4:Nat) (W:World):Prop where
 bel:Below w.heap.size w W
 c2:W.heap[w.heap.size]?=some (.cells #[.int .u64 h.base,.int .i64 h.cap,.int .i64 h.to,.bool h.cycle,.int .i64 h.scan,x 0,x 1,x 2,x 3,x 4] 37 (0,0))
 c4:W.heap[b4]?=some (.cells #[.int .u64 h.base,.int .i64 h.cap,.int .i64 h.to,.int .i64 h.low.length,.int .i64 h.high.length,.int .i64 h.old.length,.int .i64 h.far.length] 69 (0,0))
def SSt.below{w W W':World}{h:Hp}{x:Nat->Value}{b4:Nat}(s:SSt w h x b4 W)(hb:Below W.heap.size W W'):SSt w h x b4 W':=
 ⟨s.bel.trans (hb.mono s.bel.size),(hb.block _ (Zv s.c2)).trans s.c2,(hb.block _ (Zv s.c4)).trans s.c4⟩
def qk{W:World}{G:Nat->Prop}{l:List Int}{y:Value}(h:Rd W G (.sl (l.map vu)) y):∃a c,y=.slice a l.length c:=by
 generalize hL:l.map vu=L at h;have hl:L.length=l.length:=by rw[<-hL,Z56]
 cases h with
 |nil a c h1=>simp_all
 |sl _ b o cap kk vs h1 h2=>simp_all
def O5{P:Program}{W:World}{T el:TypeId}(hT:P.underlying T=some (.slice el))(hz:(Go.sizeOf el).run P W=.ok 1 W){b o len cap:Nat}{lo hi:Int}(h1:0<=lo)(h2:lo<=hi)(h3:hi<=cap):
  (Instr.slice T (.slice (some ⟨b,o,none⟩) len cap) (some (.int .i64 lo)) (some (.int .i64 hi)) none).run P W=.ok (sliV (.slice (some ⟨b,o,none⟩) len cap) lo.toNat (hi-lo).toNat) W:=by
 obtain⟨l,rfl⟩:=Z4P h1;obtain⟨k,rfl⟩:=Z4P (Z0:0<=hi);have h4:l<=k:=Z0;have h5:k<=cap:=Z0;have h6:((k:Int) - (l:Int)).toNat=k-l:=Z0;simp[Instr.slice,Instr.sliceBounds,Instr.sliceBound,asIntOf,Z5e hT,hz,h4,h5,h6,sliV,Addr.add]
 grind
def Z0s{W:World}{G:Nat->Prop}{l:List Int}{y:Value}(h:Rd W G (.sl (l.map vu)) y)(h0:0<l.length){a:Option Addr}{n k:Nat}(e:y=.slice a n k):∃b o,a=some ⟨b,o,none⟩/\l.length<=k/\k<=maxLen:=by
 generalize hL:l.map vu=L at h;have hl:L.length=l.length:=by rw[<-hL,Z56]
 cases h with
 |nil a c h1=>simp_all
 |sl _ b o cap kk vs h1 h2=>grind
def Z0q{W:World}{G:Nat->Prop}{l:List Ob}{y:Value}(h:Rd W G (.sl (l.map obV)) y):∃a c,y=.slice a l.length c:=by
 generalize hL:l.map obV=L at h;have hl:L.length=l.length:=by rw[<-hL,Z56]
 cases h with
 |nil a c h1=>simp_all
 |sl _ b o cap kk vs h1 h2=>simp_all
def Mv:Try.f42.body=some seC:=Z2
def m0{Q:Program}{c:Nat}{Post:Frame->List Frame->World->Prop}{es:List Ev}{fn:Func}{code code2:Code}{a:Act}{b:Frame}{w:World}{cs:List Frame}(h1:fn.body=some code)(h2:fn.body=some code2)(h:LS Q c Post es (b.at a [.code code]) cs w):LS Q c Post es (b.at a [.code code2]) cs w:=by
 simp_all
def O7(b:Frame)(cs0:List Frame)(w:World)(h:Hp)(hh:h.ok)(x:Nat->Value)(c:Nat)(G:Nat->Prop)(hG:∀b,G b->b<w.heap.size)(hr:∀j,j<5->Rd w G (.sl ((lsH h j).map vu)) (x j))
  (hob:∀p,p<4->(obP h p).length<=1000000/\∀o∈obP h p,0<=o.at_/\0<=o.size/\o.at_+1+o.size<=(lsH h p).length):
  LS Sol.prog c (AtCl c b cs0) ((fvs h x 4 0).map .send) (b.at {tmps:=#[hpA h x,.chan (some c)]++Array.replicate (71- (#[hpA h x,.chan (some c)]:Array Value).size) undef,defers:=[]} [.code seC]) cs0 w:=by
 obtain⟨a0,k0,e0⟩:=qk (hr 0 Z0);obtain⟨a1,k1,e1⟩:=qk (hr 1 Z0);obtain⟨a2,k2,e2⟩:=qk (hr 2 Z0);obtain⟨a3,k3,e3⟩:=qk (hr 3 Z0);have HE:=Z4O (And.intro e0 (And.intro e1 (And.intro e2 e3)))
 have HL:∀W,Below w.heap.size w W->Calls Sol.prog 64 #[hpA h x] W λe w'=>e=.returned (lyA (layH h))/\Below W.heap.size W w':=λW hW=>
  zp (G:=G) (λb hb=>Z4F (hG b hb) hW.size) λj hj=>(hr j hj).keep (λb hb=>hW.block b (hG b hb)) λ_ q=>q
 have HO:∀W,Below w.heap.size w W->∀p,Calls Sol.prog 27 #[hpA h x,.int .i64 p] W λe w'=>∃s,e=.returned (.tuple #[s,.int .i64 (Uz h p).2])/\Below W.heap.size W w'/\Rd w' (λb=>b<w'.heap.size) (.sl ((Uz h p).1.map obV)) s:=λW hW p=>
  BX hh (G:=G) (λb hb=>Z4F (hG b hb) hW.size) (λj hj=>(hr j hj).keep (λb hb=>hW.block b (hG b hb)) λ_ q=>q) p
 unfold hpA at HL HO;rw[e0,e1,e2,e3]at HL HO;have HL:=Z4O HL;have HO:=Z4O HO;have HF:=Z4O (And.intro hG hr);have HB:=Z4O hob;clear hG hr hob;unfold hpA;rw[e0,e1,e2,e3];refine m0 (fn:=Try.f42) rfl Mv ?_;rw[u71];refine LS.two (LS.regK λK hK=> ?_);go_wp2;obtain⟨w2,hw2⟩:∃w2,w2=w.alloc (.cells #[.int .u64 h.base,.int .i64 h.cap,.int .i64 h.to,.bool h.cycle,.int .i64 h.scan,.slice a0 (lsH h 0).length k0,.slice a1 (lsH h 1).length k1,.slice a2 (lsH h 2).length k2,.slice a3 (lsH h 3).length k3,x 4] 37):=⟨_,rfl⟩;rw[<-hw2];have b2:w2.heap[w.heap.size]?=some (.cells #[.int .u64 h.base,.int .i64 h.cap,.int .i64 h.to,.bool h.cycle,.int .i64 h.scan,.slice a0 (lsH h 0).length k0,.slice a1 (lsH h 1).length k1,.slice a2 (lsH h 2).length k2,.slice a3 (lsH h 3).length k3,x 4] 37 (0,0)):=by rw[hw2];exact Z5c ..
 have z2:w2.heap.size=w.heap.size+1:=by rw[hw2];simp
 have q2:Below w.heap.size w w2:=by rw[hw2];exact(Z5i _ _).alloc (Z4A _) _
 clear hw2;have y2:∀j,w2.cell? ⟨w.heap.size,j,none⟩=(#[.int .u64 h.base,.int .i64 h.cap,.int .i64 h.to,.bool h.cycle,.int .i64 h.scan,.slice a0 (lsH h 0).length k0,.slice a1 (lsH h 1).length k1,.slice a2 (lsH h 2).length k2,.slice a3 (lsH h 3).length k3,x 4]:Array Value)[j]? :=λj=>Z4Q _ _ _ _ _ _ b2;have HS:=Z4O (And.intro b2 (And.intro z2 q2));clear b2 z2 q2;refine LS.two (LS.regK λK hK=> ?_)
 go_wp2_with (first
  |(go_at_call 64;refine(HL.out _ HS.out.2.2).mono ?_;rintro e w3 ⟨rfl,hb3⟩;unfold lyA layH;dsimp only;have HB3:=Z4O hb3;clear hb3))
 obtain⟨W,hW⟩:∃W,W=w3.alloc (.cells #[.int .u64 h.base,.int .i64 h.cap,.int .i64 h.to,.int .i64 h.low.length,.int .i64 h.high.length,.int .i64 h.old.length,.int .i64 h.far.length] 69):=⟨_,rfl⟩;obtain⟨b4,hb4⟩:∃b4,b4=w3.heap.size:=⟨_,rfl⟩;rw[<-hW,<-hb4]
 have hS:SSt w h x b4 W:=by
  have hz:=HB3.out.size;rw[hW,hb4];exact⟨(HS.out.2.2.trans (HB3.out.mono HS.out.2.2.size)).alloc (by have:=HS.out.2.2.size;omega) _,by rw[Z4U _ _ _ (by have:=Zv HS.out.1;omega)];rw[e0,e1,e2,e3];exact(HB3.out.block _ (Zv HS.out.1)).trans HS.out.1,Z5c ..⟩
 clear hW hb4 HB3 HS y2 e0 e1 e2 e3;have y2:∀j,W.cell? ⟨w.heap.size,j,none⟩=(#[.int .u64 h.base,.int .i64 h.cap,.int .i64 h.to,.bool h.cycle,.int .i64 h.scan,.slice a0 (lsH h 0).length k0,.slice a1 (lsH h 1).length k1,.slice a2 (lsH h 2).length k2,.slice a3 (lsH h 3).length k3,x 4]:Array Value)[j]? :=λj=>by have:=hS.c2;rw[HE.out.1,HE.out.2.1,HE.out.2.2.1,HE.out.2.2.2]at this;grind [cell_of_row]
 refine LS.two (LS.two (LS.regK λK hK=> ?_));go_wp2
 refine LS.block (LS.loopI (λn es a W=>∃(p:Nat) (t:Array Value),p+n=4/\es=(fvs h x n p).map .send/\a=⟨t,[]⟩/\t.size=71/\t.getD 1 undef=.chan (some c)/\t.getD 2 undef=.pointer (some ⟨w.heap.size,0,none⟩)/\t.getD 4 undef=.pointer (some ⟨b4,0,none⟩)/\
  t.getD 24 undef=.agg #[.slice a0 (lsH h 0).length k0,.slice a1 (lsH h 1).length k1,.slice a2 (lsH h 2).length k2,.slice a3 (lsH h 3).length k3]/\t.getD 25 undef=.int .i64 p/\SSt w h x b4 W) (n:=4) ⟨0,_,rfl,rfl,rfl,rfl,rfl,rfl,rfl,rfl,rfl,hS⟩ ?_)
 clear hS y2 W;rintro n es a W ⟨p,t,hp,rfl,rfl,hsz,t1,t2,t4,t24,t25,hS⟩ ih;have IH:=Z4O ih;clear ih;rw[OQ hsz,t1,t2,t4,t24,t25];obtain⟨g,hg⟩:∃g:Nat->Value,∀i,t.getD i undef=g i:=⟨_,λ_=>rfl⟩;simp only[hg];clear hg t1 t2 t4 t24 t25 hsz t;have y2:∀j,W.cell? ⟨w.heap.size,j,none⟩=(#[.int .u64 h.base,.int .i64 h.cap,.int .i64 h.to,.bool h.cycle,.int .i64 h.scan,.slice a0 (lsH h 0).length k0,.slice a1 (lsH h 1).length k1,.slice a2 (lsH h 2).length k2,.slice a3 (lsH h 3).length k3,x 4]:Array Value)[j]? :=λj=>by have:=hS.c2;rw[HE.out.1,HE.out.2.1,HE.out.2.2.1,HE.out.2.2.2]at this;grind [cell_of_row]
 cases n with
 |zero=>
  have hpI:((p:Int)<4)=False:=Z8y Z0;refine LS.two (LS.regK λK hK=> ?_);go_wp2;refine LS.two (LS.condF rfl (LS.exit rfl (LS.region ?_)));refine LS.value (i:=0) (l:=[1]) rfl rfl rfl ?_;exact LS.now ⟨rfl,_,rfl,rfl,rfl⟩
 |succ n=>
  have hpI:((p:Int)<4)=True:=eq_true Z0;have hp4:p<4:=Z0;refine LS.two (LS.regK λK hK=> ?_);go_wp2;refine LS.two (LS.condT rfl (LS.skip (LS.two (LS.block (LS.two (LS.regK λK hK=> ?_))))));obtain⟨ap,kp,ep⟩:=qk (HF.out.2 p Z0)
  have hidx:∀W,(Instr.index 135 (.agg #[.slice a0 (lsH h 0).length k0,.slice a1 (lsH h 1).length k1,.slice a2 (lsH h 2).length k2,.slice a3 (lsH h 3).length k3]) (.int .i64 (p:Int))).run Sol.prog W=.ok (.slice ap (lsH h p).length kp) W:=by
   intro W;have hT:Sol.prog.underlying 135=some (.array 4 35):=Z2;have:p=0\/p=1\/p=2\/p=3:=Z0;rw[<-ep];obtain rfl|rfl|rfl|rfl:=this
   ·rw[HE.out.1];rfl
   ·rw[HE.out.2.1];rfl
   ·rw[HE.out.2.2.1];rfl
   ·rw[HE.out.2.2.2];rfl
  have EP:=Z4O ep;clear ep;go_wp2;clear hidx;have hw1:=Z7 ((p:Int)+1) Z0 Z0;refine LS.two (LS.regK λK hK=> ?_);go_wp2;have HS:=Z4O hS;clear hS;refine LS.two (LS.regK λK hK=> ?_)
  go_wp2_with (first
   |(go_at_call 27;refine(HO.out _ HS.out.bel _).mono ?_;rintro e W5 ⟨s5,rfl,hb5,hr5⟩;obtain⟨a5,k5,rfl⟩:=Z0q hr5;have HB5:=Z4O (And.intro hb5 hr5);clear hb5 hr5))
  refine LS.two (LS.regK λK hK=> ?_);go_wp2;have hS:=HS.out.below HB5.out.1;have hr5:=HB5.out.2;clear HS HB5 y2 W hpI;rename_i W5;rw[show(Uz h ((p:Int)+1)).1=obP h p from rfl]at hr5⊢;have hobs:=Fq hr5 λb hb=>hb;obtain⟨hol,hoo⟩:=HB.out p hp4;have hfv:fvs h x (n+1) p=(obP h p).map (fvV h x p)++fvs h x n (p+1):=rfl;rw[hfv];clear hfv hr5;have HX:=Z4O (And.intro hobs (And.intro hol hoo));clear hobs hoo
  refine LS.block (LS.loopI (λm es a W=>∃(i:Nat) (t:Array Value),i+m=(obP h p).length/\es=(((obP h p).drop i).map (fvV h x p)++fvs h x n (p+1)).map .send/\a=⟨t,[]⟩/\t.size=71/\t.getD 1 undef=.chan (some c)/\t.getD 2 undef=.pointer (some ⟨w.heap.size,0,none⟩)/\t.getD 4 undef=.pointer (some ⟨b4,0,none⟩)/\
   t.getD 6 undef=.slice ap (lsH h p).length kp/\t.getD 7 undef=.int .i64 ((p:Int)+1)/\t.getD 24 undef=.agg #[.slice a0 (lsH h 0).length k0,.slice a1 (lsH h 1).length k1,.slice a2 (lsH h 2).length k2,.slice a3 (lsH h 3).length k3]/\t.getD 25 undef=.int .i64 p/\t.getD 37 undef=.slice a5 (obP h p).length k5/\t.getD 38 undef=.int .i64 (obP h p).length/\t.getD 39 undef=.int .i64 i/\
   SSt w h x b4 W/\Below W5.heap.size W5 W) (n:=(obP h p).length) ⟨0,_,Z0,rfl,rfl,rfl,rfl,rfl,rfl,rfl,rfl,rfl,rfl,rfl,rfl,rfl,hS,Z5i _ _⟩ ?_)
  clear hS g hw1;rintro m es a W ⟨i,t,hi,rfl,rfl,hsz,t1,t2,t4,t6,t7,t24,t25,t37,t38,t39,hS,hB5⟩ ih;have IH2:=Z4O ih;clear ih;rw[OQ hsz,t1,t2,t4,t6,t7,t24,t25,t37,t38,t39];obtain⟨g,hg⟩:∃g:Nat->Value,∀i,t.getD i undef=g i:=⟨_,λ_=>rfl⟩;simp only[hg];clear hg t1 t2 t4 t6 t7 t24 t25 t37 t38 t39 hsz t;cases m with
  |zero=>
   have hiI:((i:Int)< ((obP h p).length:Int))=False:=Z8y Z0;refine LS.two (LS.regK λK hK=> ?_);go_wp2;refine LS.two (LS.condF rfl (LS.exit rfl (LS.inBlock ?_)));have hw1:=Z7 ((p:Int)+1) Z0 Z0;have hdr:(obP h p).drop i=[]:=Z8e Z0;rw[hdr];clear hdr hiI;refine LS.regK λK hK=> ?_;go_wp2;exact IH.out n _ _ _ Z0 ⟨p+1,_,Z0,rfl,rfl,rfl,rfl,rfl,rfl,rfl,Z1,hS⟩
  |succ m=>
   have hil:i< (obP h p).length:=Z0;obtain⟨o,ho⟩:∃o,(obP h p)[i]?=some o:=⟨_,Z4u hil⟩;have hiI:((i:Int)< ((obP h p).length:Int))=True:=eq_true Z0;obtain⟨g5,o5,cap5,e5,hc5,hm5,hg5,hcell⟩|⟨a9,c9,e9,e10⟩:=HX.out.1
   case inr=>rw[e10]at hil;simp at hil
   injection e5 with e5 _ e6;subst e5;subst e6;obtain⟨v0,v1,v2,v3,v4⟩:=hcell i o ho;have hBb:=hB5.block _ hg5;have y0:W.cell? ⟨g5,o5+i*5,none⟩=some (.int .i64 o.at_):=by rw[Z5j hBb];exact v0
   have y1:W.cell? ⟨g5,o5+i*5+1,none⟩=some (.int .i64 o.size):=by rw[Z5j hBb];exact v1
   have y2:W.cell? ⟨g5,o5+i*5+2,none⟩=some (.int .i64 o.ptrs):=by rw[Z5j hBb];exact v2
   have y3:W.cell? ⟨g5,o5+i*5+3,none⟩=some (.bool o.gone):=by rw[Z5j hBb];exact v3
   have y4:W.cell? ⟨g5,o5+i*5+4,none⟩=some (.int .u64 o.target):=by rw[Z5j hBb];exact v4
   clear v0 v1 v2 v3 v4 hBb hcell;have HC:=Z4O hc5;clear hc5;refine LS.two (LS.regK λK hK=> ?_);go_wp2;refine LS.two (LS.condT rfl (LS.skip (LS.two (LS.block (LS.two (LS.regK λK hK=> ?_))))));go_wp2;obtain⟨W6,hW6⟩:∃W6,W6=W.alloc (.cells #[.int .i64 o.at_,.int .i64 o.size,.int .i64 o.ptrs,.bool o.gone,.int .u64 o.target] 59):=⟨_,rfl⟩;obtain⟨bo,hbo⟩:∃bo,bo=W.heap.size:=⟨_,rfl⟩;rw[<-hW6,<-hbo];have hb6:Below W.heap.size W W6:=by rw[hW6];exact(Z5i _ _).alloc (Z4A _) _
   have q6:W6.heap[bo]?=some (.cells #[.int .i64 o.at_,.int .i64 o.size,.int .i64 o.ptrs,.bool o.gone,.int .u64 o.target] 59 (0,0)):=by rw[hW6,hbo];exact Z5c ..
   have hS6:=hS.below hb6;have hB6:=hB5.trans (hb6.mono hB5.size);clear hW6 hbo hb6 hS hB5 y0 y1 y2 y3 y4 W;have z4:∀j,W6.cell? ⟨b4,j,none⟩=(#[.int .u64 h.base,.int .i64 h.cap,.int .i64 h.to,.int .i64 h.low.length,.int .i64 h.high.length,.int .i64 h.old.length,.int .i64 h.far.length]:Array Value)[j]? :=λj=>Z4Q _ _ _ _ _ _ hS6.c4;have zo:∀j,W6.cell? ⟨bo,j,none⟩=(#[.int .i64 o.at_,.int .i64 o.size,.int .i64 o.ptrs,.bool o.gone,.int .u64 o.target]:Array Value)[j]? :=λj=>Z4Q _ _ _ _ _ _ q6;have HS:=Z4O (And.intro hS6 (And.intro hB6 q6));clear hS6 hB6 q6;have HA:=Z4O λW=>j3 hh.lay ((p:Int)+1) o.at_ W;unfold lyA layH at HA;dsimp only at HA;refine LS.two (LS.regK λK hK=> ?_)
   go_wp2_with (first
    |(go_at_call 75;refine(HA.out _).mono ?_;rintro e W7 ⟨rfl,hb7⟩;have HB7:=Z4O hb7;clear hb7))
   have hS:=HS.out.1.below HB7.out;have hB5:=HS.out.2.1.trans (HB7.out.mono HS.out.2.1.size);have q7:=(HB7.out.block _ (Zv HS.out.2.2)).trans HS.out.2.2;clear z4 zo HS HB7 HA;rename_i W7;clear W6;obtain⟨ha0,hz0,hle⟩:=HX.out.2.2 o (Z4B ho);have hpos:0< (lsH h p).length:=Z0;obtain⟨bw,ow,ew,hcw,hmw⟩:=Z0s (HF.out.2 p Z0) hpos EP.out;subst ew
   have hdr:(obP h p).drop i=o::(obP h p).drop (i+1):=by
    obtain⟨h1,rfl⟩:=Z4v.1 ho;exact Z5r h1
   rw[hdr];rw[show(((o::(obP h p).drop (i+1)).map (fvV h x p)++fvs h x n (p+1)).map Ev.send)=.send (fvV h x p o)::(((obP h p).drop (i+1)).map (fvV h x p)++fvs h x n (p+1)).map .send from rfl];clear hdr ho hiI;have zo:∀j,W7.drew.cell? ⟨bo,j,none⟩=(#[.int .i64 o.at_,.int .i64 o.size,.int .i64 o.ptrs,.bool o.gone,.int .u64 o.target]:Array Value)[j]? :=λj=>Z4Q _ _ _ _ _ _ (show W7.drew.heap[bo]?=_ from q7);have hl6:=Nw hh p;have hw1:=Z7 (o.at_+1) Z0 Z0;have hw2:=Z7 (o.at_+1+o.size) Z0 Z0;have hs1:(0:Int)<=o.at_+1:=Z0;have hs2:o.at_+1<=o.at_+1+o.size:=Z0;have hs3:o.at_+1+o.size<=(kp:Int):=Z0;obtain⟨av,nv,cv,hSV⟩:∃av nv cv,.slice av nv cv=sliV (x p) (o.at_+1).toNat o.size.toNat:=by rw[EP.out];exact⟨_,_,_,rfl⟩
   have hsl:∀W,(Instr.slice 35 (.slice (some ⟨bw,ow,none⟩) (lsH h p).length kp) (some (.int .i64 (o.at_+1))) (some (.int .i64 (o.at_+1+o.size))) none).run Sol.prog W=.ok (.slice av nv cv) W:=by
    intro W;have hT:Sol.prog.underlying 35=some (.slice 24):=Z2;rw[hSV,EP.out,O5 hT Z1 hs1 hs2 hs3,show o.at_+1+o.size- (o.at_+1)=o.size by omega]
   clear hs1 hs2 hs3 zo;have zo:∀j,W7.drew.cell? ⟨bo,j,none⟩=(#[.int .i64 o.at_,.int .i64 o.size,.int .i64 o.ptrs,.bool o.gone,.int .u64 o.target]:Array Value)[j]? :=λj=>Z4Q _ _ _ _ _ _ (show W7.drew.heap[bo]?=_ from q7);have HV:=Z4O hSV;clear hSV;have HS:=Z4O (And.intro hS hB5);clear hS hB5 q7;refine LS.send (n:=16) follows Z2 rfl rfl rfl rfl rfl rfl ?_;simp only[Z7K,Z8B];change wpStill Sol.prog _ W7.drew _ _ _
   repeat still_step
   refine wpStill_nil ⟨rfl,?_,?_⟩
   ·unfold fvV;rw[<-HV.out];rfl
   ·refine LS.inBlock ?_;have hw3:=Z7 ((i:Int)+1) Z0 Z0;refine LS.regK λK hK=> ?_;go_wp2;exact IH2.out m _ _ _ Z0 ⟨i+1,_,Z0,rfl,rfl,rfl,rfl,rfl,rfl,rfl,rfl,rfl,rfl,rfl,rfl,Z1,SSt.below HS.out.1 (Z5i _ _).drew,HS.out.2.drew⟩
end Vm
end
section
namespace Vm
open Go Go.Proofs Go.Conc
open Go.RowKit (Below)
section
section
variable {c:Ctx}{B:Nat}{G Kf:Nat->Prop}{s:St}{a:Act}{w w0:World}{h:GH}{S:SS}{n0:Nat}{fix:List Nat}{T0:Array Value}{t:Nat}{v:Value}{x:V}
def Yl{p:Nat}(hp:p≠t):(a.put (some t) v).tmps[p]?=a.tmps[p]? :=by
 simp[Act.put,Z5I,Z6K hp]
def UL(ht:t<a.tmps.size):(a.put (some t) v).tmps[t]?=some v:=by
 simp[Act.put,Z5I,ht]
theorem Xp:(a.put (some t) v).tmps.size=a.tmps.size:=by simp[Act.put]
theorem NZ{p:Nat}{k:OT}{u:Value}{T1 T2:Nat->Option Value}(hk:RelK c.P B s w h T1 p u (Kj c p k)):RelK c.P B s w h T2 p u (Kj c p k):=by
 cases k<;>exact hk
def RelG.set(hr:RelG c B G s a w h (Y0 c S))(hS:S.at t=none):RelG c B G s (a.put (some t) v) w h (Y0 c S):=by
 refine⟨hr.ok,λp hp hk=> ?_,λp hp=> ?_⟩
 ·by_cases e:p=t
  ·subst e;rw[Zh,hS]at hk;cases hk
  ·obtain⟨u,hu,hrel⟩:=hr.at_ p hp hk;refine⟨u,by simp_all[Yl],?_⟩;rw[Zh]at hrel⊢;cases e2:S.at p with
   |none=>rw[Zh,e2]at hk;cases hk
   |some k=>grind [NZ]
 ·refine absurd ?_ hp;rw[Zh];cases S.at p<;>exact Y5 _
def RelS.set(hr:RelS Kf fix T0 c B G w0 n0 s a w S)(hS:S.at t=none):RelS Kf fix (a.put (some t) v).tmps c B G w n0 s (a.put (some t) v) w S:=by
 obtain⟨⟨h,h1,h2⟩,h3,h4,h5,h6⟩:=hr;exact⟨⟨h,h1.set hS,h2⟩,h3,.refl _ _,by grind [Xp],h6⟩
def RelS.base(hr:RelS Kf fix T0 c B G w0 n0 s a w S):RelS Kf fix a.tmps c B G w n0 s a w S:=by
 obtain⟨h1,h3,h4,h5⟩:=hr;exact⟨h1,h3,.refl _ _,h5⟩
theorem RelS.put(hr:RelS Kf fix T0 c B G w0 n0 s a w S)(hS:S.at t=none)(hix:∀y∈S,c.ix y.1≠c.ix t)(hlt:t<n0)(hv:Rd w G x v):RelS Kf fix (a.put (some t) v).tmps c B G w n0 (putS s (c.ix t) (.v x)) (a.put (some t) v) w ((t,.fz)::S):=by
 obtain⟨⟨h,h1,h2⟩,h3,h4,h5,h6⟩:=hr;refine⟨⟨h,⟨h1.ok,λp hp hk=> ?_,λp hp=> ?_⟩,h2⟩,λp hp=> ?_,.refl _ _,by grind [Xp],h6⟩
 ·rw[Zh]at hk⊢;by_cases e:t=p
  ·subst e;simp only[SS.at,Z5b];exact⟨v,UL Z0,x,by simp[eval,Zk],hv.mono λb hb=>GH.ext_F (h1.ok.g_F b hb)⟩
  ·simp only[SS.at,if_neg e]at hk⊢;have hag:=(h1.set (v:=v) hS).agree (t:=putS s (c.ix t) (.v x)) λy hy=>by rw[Zk,if_neg (hix y hy)]
   cases e2:S.at p with
   |none=>rw[e2]at hk;cases hk
   |some k=>
    have:=hag.at_ p (by grind [Zh,Y5]) (by simp_all[Zh]);simp_all[Zh]
 ·refine absurd ?_ hp;rw[Zh];split<;>exact Y5 _
 ·by_cases e:t=p
  ·simp_all[SS.at]
  ·simp only[SS.at,if_neg e]at hp;rw[Zk,if_neg (hix _ (U6 hp))];exact h3 p hp
end
noncomputable def cV:Ctx:= {P:=Sol.prog,ix:=(vf Sol.prog).ix,own:=λ_=>false,fresh,sig:=sigV,tr:=[3],n:=82}
def RY{code:Code}{S:SS}{st:Stm}{fl:Flow}{B:Nat}{G Kf:Nat->Prop}{s:St}{a:Act}{w w0:World}{T0:Array Value}{N:St->Prop}{X:Nat->St->Prop}{Rt:St->Prop}(hc:comp (vf Sol.prog) code S=some (st,fl))(hr:RelS Kf [4,23] T0 cV B G w0 82 s a w S)(hw:wpS Sol.prog st s N X Rt):
  code.wp Sol.prog (Post Kf [4,23] T0 cV B G w0 82 fl N X Rt) a w:=
 Sg (fc:=vf Sol.prog) follows (λp hp q hq he=>Aa (Z6d _ hp) (Z6d _ hq) he) rfl rfl rfl (Z4A _) code (Qe (λ_=>trivial) code) hc hr hw
noncomputable def bodyC:Code:=cAt ofC [1,1,1,1,1,1,1,0,1,0,0]
noncomputable def ops9:Array Oper:=Fx (cAt ofC [1,1,1,1,1,1,1,0,1,0,0,0])
def Z1M:bodyC=.seq (.region 9 ops9 false) (cAt ofC [1,1,1,1,1,1,1,0,1,0,0,1]):=Z2
def O1:cAt ofC [1,1,1,1]=.seq (cAt ofC [1,1,1,1,0]) (.seq (cAt ofC [1,1,1,1,1,0]) (.seq (cAt ofC [1,1,1,1,1,1,0]) (.seq (.seq (cAt ofC [1,1,1,1,1,1,1,0,0]) (.block 0 (.loop bodyC))) (cAt ofC [1,1,1,1,1,1,1,1])))):=Z2
noncomputable def ops8:Array Oper:=Fx (cAt ofC [1,1,1,1,1,1,1,0,0])
def Z2s:cAt ofC [1,1,1,1,1,1,1,0,0]=.region 8 ops8 false:=Z2
def zF:Value:=.agg #[.int .i64 0,.int .i64 0,.int .i64 0,.bool false,.int .u64 0,.int .u64 0,.slice none 0 0]
def Z09:∃t ch d inf o,ops9[0]?=some o/\o.guard=none/\o.dst=some 24/\o.op=.recv t ch true/\ch=.tmp 23/\Sol.prog.underlying t=some (.chan d 87)/\Sol.prog.info? 87=some inf/\inf.zero=some zF:=
 ⟨_,_,_,_,_,rfl,rfl,rfl,rfl,rfl,rfl,rfl,rfl⟩
def Z0a:∃o,ops9[1]?=some o/\o.guard=none/\o.dst=some 25/\o.op=.extract (.tmp 24) 1:=⟨_,rfl,rfl,rfl,rfl⟩
def Fv:ops9.size=2:=rfl
def rLS:SS:=[(1,.mem [.fz,.fz,.fz,.fz,.fz,.fz,.fz,.fz,.fz,.fz]),(2,.mem [.fz,.fz]),(3,.fz),(5,.own 87),(6,.mem [.own 84]),(7,.mem [.own 85])]
structure AtL (B:Nat) (G:Nat->Prop) (wS:World) (c:Nat) (st:Vw) (hc:List V) (s:St) (a:Act) (w:World):Prop where
 rel:∃T0 w0,RelS G [4,23] T0 cV B G w0 82 s a w rLS
 same:Same G wS w
 ch:a.tmps[23]?=some (.chan (some c))
 s1:get s 1=.m hc
 s6:get s 6=.v (.sl (st.ns.map foV))
 s7:get s 7=.m [mpA vi st.nm]
 s8:get s 8=.m [mpA vu st.tm]
theorem AtL.put{B:Nat}{G:Nat->Prop}{wS:World}{c:Nat}{st:Vw}{hc:List V}{s:St}{a:Act}{w:World}(h:AtL B G wS c st hc s a w){v:Value}{x:V}{b:Bool}(hv:Rd wS G x v):
  ∃a2 s2 T0 w0,a2=(a.put (some 24) (.tuple #[v,.bool b])).put (some 25) (.bool b)/\RelS G [4,23] T0 cV B G w0 82 s2 a2 w rDS/\a2.tmps[23]?=some (.chan (some c))/\get s2 1=.m hc/\get s2 6=.v (.sl (st.ns.map foV))/\get s2 7=.m [mpA vi st.nm]/\get s2 8=.m [mpA vu st.tm]/\get s2 12=.v (.tup [x,.bool b])/\get s2 10=.v (.bool b):=by
 obtain⟨T0,w0,hr⟩:=h.rel
 have hv':Rd w G (.tup [x,.bool b]) (.tuple #[v,.bool b]):=by
  refine .tup _ _ rfl λi c hi=> ?_
  match i,hi with
  |0,hi=>cases hi;exact hv.keep h.same λ_ q=>q
  |1,hi=>cases hi;exact .bool _
 have h1:=hr.put (t:=24) rfl Z3O Z0 hv';have h2:=h1.put (t:=25) (v:=.bool b) (x:=.bool b) rfl Z3O Z0 (.bool _);have i24:cV.ix 24=12:=Z3O;have i25:cV.ix 25=10:=Z3O;rw[i24,i25]at h2;refine⟨_,_,_,_,rfl,h2.weak (R:=rDS) Z2,?_,?_,?_,?_,?_,?_,?_⟩
 ·rw[Yl Z0,Yl Z0];exact h.ch
 all_goals simp[Zk,h.s1,h.s6,h.s7,h.s8]
def FS{B:Nat}{G:Nat->Prop}{wS:World}{c:Nat}{hc:List V}{k:List Item}{b:Frame}{Post:Frame->List Frame->World->Prop}(fin:Vw)
  (hz:Rd wS G (foV ⟨⟨0,0,0,false,0⟩,0,[]⟩) zF)
  (hend:∀s a w T0 w0,RelS G [4,23] T0 cV B G w0 82 s a w rDX->get s 1=.m hc->get s 6=.v (.sl (fin.ns.map foV))->get s 7=.m [mpA vi fin.nm]->get s 8=.m [mpA vu fin.tm]->LS Sol.prog c Post [] (b.at a k) [] w):
  ∀(fs:List (Fo×Value)) (st:Vw),(∀y∈fs,Rd wS G (foV y.1) y.2)->st.ns.length+fs.length<=4000000->(fs.map (·.1)).foldl Vw.put st=fin->∀s a w,AtL B G wS c st hc s a w->
   LS Sol.prog c Post (fs.map (λy=>.recv y.2)++[.closed zF]) (b.at a (.code bodyC:: .inLoop bodyC:: .inBlock 0::k)) [] w:=by
 obtain⟨t,ch,d,inf,o,o1,o2,o3,o4,o5,o6,o7,o8⟩:=Z09;obtain⟨o',p1,p2,p3,p4⟩:=Z0a
 have ext:∀(a:Act) (w:World) (v:Value) (b:Bool),a.tmps[24]?=some (.tuple #[v,.bool b])->(execOp a.eval o').run Sol.prog w=.ok (.value (.bool b)) w:=λa w v b h=>by
  have he:a.eval (.tmp 24)=.tuple #[v,.bool b]:=Act.eval_tmp a 24 _ h;unfold execOp;simp only[p4,he];rfl
 have enter:∀ {es:List Ev} {e:Ev} {v:Value} {fl:Bool} {s:St} {st:Vw} {a:Act} {w:World},e.val=.tuple #[v,.bool fl]->((∃v,e=.recv v)\/e=.closed zF)->AtL B G wS c st hc s a w->
   LS Sol.prog c Post es (b.at ((a.put (some 24) (.tuple #[v,.bool fl])).put (some 25) (.bool fl)) (.code (cAt ofC [1,1,1,1,1,1,1,0,1,0,0,1]):: .inLoop bodyC:: .inBlock 0::k)) [] w->
   LS Sol.prog c Post (e::es) (b.at a (.code bodyC:: .inLoop bodyC:: .inBlock 0::k)) [] w:=λ{es e v fl s st a w} hev hcl hA hk=>by
  obtain⟨T0,w0,hr⟩:=hA.rel;have hsz:a.tmps.size=82:=hr.2.2.2.1;rw[show(Item.code bodyC)=.code (.seq (.region 9 ops9 false) (cAt ofC [1,1,1,1,1,1,1,0,1,0,0,1]))by rfl];refine LS.two (LS.region ?_);rw[Fv,show List.range 2=[0,1]from rfl];refine LS.event (i:=0) o1 (by simp[Region.wanted,o2]) ?_ ?_
  ·obtain⟨v,rfl⟩|rfl:=hcl
   ·exact⟨t,ch,d,_,inf,zF,o4,by rw[o5];rfl,by rw[o5];exact Act.eval_tmp a 23 _ hA.ch,o6,o7,o8,λz' e=>by cases e⟩
   ·exact⟨t,ch,d,_,inf,zF,o4,by rw[o5];rfl,by rw[o5];exact Act.eval_tmp a 23 _ hA.ch,o6,o7,o8,λz' e=>Z3L⟩
  ·rw[o3,hev];refine LS.value (i:=1) p1 (by simp[Region.wanted,p2]) (ext _ w v fl (UL Z0)) ?_;simp_all[LS.regEnd]
 intro fs
 induction fs with
 |nil=>
  intro st hfs hn hfin s a w hA;refine enter (v:=zF) (fl:=false) rfl (.inr rfl) hA ?_;obtain⟨a2,s2,T0,w0,rfl,hr,h23,h1,h6,h7,h8,h12,h10⟩:=hA.put (b:=false) hz;refine LS.wp (RY rDc hr (Z0o (N:=λ_=>False) (R:=λ_=>False) (X:=λid s'=>id=0/\s'=s2) h10 ⟨rfl,rfl⟩)) λe a' w' hp=> ?_;cases e with
  |normal=>obtain⟨_,_,_,h,_⟩:=hp;grind
  |exit id=>
   obtain⟨s',S',hx,⟨rfl,rfl⟩,hr'⟩:=hp;have hS:S'=rDX:=by simpa using hx
   subst hS;refine⟨k,rfl,?_⟩
   grind
  |ret=>obtain⟨_,_,_,h,_⟩:=hp;grind
  |_=>exact hp.elim
 |cons y fs ih=>
  intro st hfs hn hfin s a w hA;simp only[Z5B]at hn;refine enter (v:=y.2) (fl:=true) rfl (.inl ⟨_,rfl⟩) hA ?_;obtain⟨a2,s2,T0,w0,rfl,hr,h23,h1,h6,h7,h8,h12,h10⟩:=hA.put (b:=true) (hfs y Z1);refine LS.wp (RY rDc hr.base (Z2u (X:=λ_ _=>False) (R:=λ_=>False) (N:=λs'=>get s' 6=.v (.sl ((st.put y.1).ns.map foV))/\get s' 7=.m [mpA vi (st.put y.1).nm]/\get s' 8=.m [mpA vu (st.put y.1).tm]/\get s' 1=.m hc) h6 h7 h8 h12 h10 Z0 λs' q6 q7 q8 q1 _ _=>⟨q6,q7,q8,q1.trans h1⟩)) λe a' w' hp=> ?_;cases e with
  |normal=>
   obtain⟨s',S',hS,⟨q6,q7,q8,q1⟩,hr'⟩:=hp;cases hS;refine LS.inLoop (ih (st.put y.1) (λz hz=>hfs z (by simp[hz])) ?_ hfin s' a' w' ⟨⟨_,_,hr'.weak (R:=rLS) Z2⟩,hA.same.trans hr'.2.2.1.same,?_,q1,q6,q7,q8⟩)
   ·grind [Vw.put]
   ·rw[hr'.2.2.1.fix 23 Z1];exact h23
  |exit id=>obtain⟨_,_,_,h,_⟩:=hp;grind
  |ret=>obtain⟨_,_,_,h,_⟩:=hp;grind
  |_=>exact hp.elim
def OH(b:Frame)(D:World->Nat->Prop)(r:V)(fr:Frame)(cs:List Frame)(w:World):Prop:=
 cs=[]/\∃(a:Act) (todo:List Item),fr= {b.at a todo with mode:=.returning}/\a.defers=[]/\∃v,(results Try.f15 a.tmps).run Sol.prog w=.ok v w/\Rd w (D w) r v
def AF{code:Code}{S:SS}{st:Stm}{S2:SS}{B:Nat}{G Kf:Nat->Prop}{s:St}{a:Act}{w w0:World}{T0:Array Value}{N:St->Prop}{c:Nat}{Pst:Frame->List Frame->World->Prop}{es:List Ev}{b:Frame}{k:List Item}(hc:comp (vf Sol.prog) code S=some (st,⟨some S2,[],[]⟩))(hr:RelS Kf [4,23] T0 cV B G w0 82 s a w S)
  (hw:wpS Sol.prog st s N (λ_ _=>False) (λ_=>False)) (hk:∀s' a' w',N s'->RelS Kf [4,23] T0 cV B G w0 82 s' a' w' S2->LS Sol.prog c Pst es (b.at a' k) [] w'):LS Sol.prog c Pst es (b.at a (.code code::k)) [] w:=
 LS.wp (RY hc hr hw) λe a' w' hp=>by
  cases e with
  |normal=>obtain⟨s',S',hS,hN,hr'⟩:=hp;cases hS;exact hk _ _ _ hN hr'
  |exit id=>obtain⟨_,_,_,h,_⟩:=hp;grind
  |ret=>obtain⟨_,_,_,h,_⟩:=hp;grind
  |_=>exact hp.elim
def Z08:∃o,ops8[0]?=some o/\o.guard=none/\o.dst=some 23/\o.op=.move (.tmp 4):=⟨_,rfl,rfl,rfl,rfl⟩
def Fu:ops8.size=1:=rfl
def NL{B:Nat}{G:Nat->Prop}{c:Nat}{b:Frame}{s:St}{a:Act}{w w0:World}{T0:Array Value}{bs cp tt y sc x5 x6 x7 x8:V}{roots:List Int}{fs:List (Fo×Value)}{fin:Vw}(hr:RelS G [4,23] T0 cV B G w0 82 s a w r5S)(hch:a.tmps[4]?=some (.chan (some c)))(h1:get s 1=.m [bs,cp,tt,y,sc,x5,x6,x7,x8,.sl (roots.map vu)])
  (hfs:∀y∈fs,Rd w G (foV y.1) y.2) (hn:fs.length<=4000000) (hfin:(fs.map (·.1)).foldl Vw.put ⟨[],[],[]⟩=fin) (hs:fin.sm roots):
  LS Sol.prog c (OH b (λw' x=>G x\/(B<=x/\x<w'.heap.size)) (XC (fin.gr roots))) (fs.map (λy=>.recv y.2)++[.closed zF]) (b.at a [.code (cAt ofC [1,1,1,1])]) [] w:=by
 rw[O1];refine LS.two (AF r5c hr.base (N:=λs'=>get s' 6=.v (.sl [])/\get s' 1=get s 1) (by simp[r5,Zk]) λs1 a1 w1 ⟨q6,q1⟩ hr1=> ?_);refine LS.two (AF r6c hr1.base (N:=λs'=>get s' 7=.m [mpA vi []]/\get s' 6=.v (.sl [])/\get s' 1=get s 1) (by simp[r6,Zk,q6,q1];rfl) λs2 a2 w2 ⟨t7,t6,t1⟩ hr2=> ?_);refine LS.two (AF r7c hr2.base (N:=λs'=>get s' 8=.m [mpA vu []]/\get s' 7=.m [mpA vi []]/\get s' 6=.v (.sl [])/\get s' 1=get s 1) (by simp[r7,Zk,t7,t6,t1];rfl) λs3 a3 w3 ⟨u8,u7,u6,u1⟩ hr3=> ?_)
 have hch3:a3.tmps[4]?=some (.chan (some c)):=by
  rw[hr3.2.2.1.fix 4 Z1,hr2.2.2.1.fix 4 Z1,hr1.2.2.1.fix 4 Z1];exact hch
 have hsame:Same G w w3:=(hr1.2.2.1.same.trans hr2.2.2.1.same).trans hr3.2.2.1.same;refine LS.two (LS.two ?_);rw[Z2s];refine LS.region ?_;rw[Fu,show List.range 1=[0]from rfl];obtain⟨o,o1,o2,o3,o4⟩:=Z08;have hev:a3.eval (.tmp 4)=.chan (some c):=Act.eval_tmp a3 4 _ hch3;refine LS.value (v:=.chan (some c)) (w':=w3) o1 (by simp[Region.wanted,o2]) (by simp_all[execOp]) (LS.regEnd ?_);rw[o3];have hr4:=hr3.set (t:=23) (v:=.chan (some c)) rfl;have hsz:a3.tmps.size=82:=hr3.2.2.2.1;refine LS.block (LS.steps (.one step_loop) ?_);refine FS (hc:=[bs,cp,tt,y,sc,x5,x6,x7,x8,.sl (roots.map vu)]) fin (wS:=w) (B:=B) (G:=G) ?_ ?_ fs ⟨[],[],[]⟩ hfs Z3L hfin s3 _ w3 ⟨⟨_,_,hr4.weak (R:=rLS) Z2⟩,hsame,UL Z0,u1.trans h1,u6,u7,u8⟩
 ·refine .agg _ _ rfl Z1 λi x hi=> ?_
  match i,hi with
  |0,hi=>cases hi;exact .int _ _
  |1,hi=>cases hi;exact .int _ _
  |2,hi=>cases hi;exact .int _ _
  |3,hi=>cases hi;exact .bool _
  |4,hi=>cases hi;exact .int _ _
  |5,hi=>cases hi;exact .int _ _
  |6,hi=>cases hi;exact .nil _ _ (Z5H _)
 ·intro s5 a5 w5 T5 w05 hr5 v1 v6 v7 v8;refine LS.wp (RY rCc ((hr5.weak (R:=rCS) Z2).base) (Z2t (N:=λ_=>False) (X:=λ_ _=>False) (R:=λs'=>resV s' [(2,.ag 2),(3,.v)]=some (XC (fin.gr roots))) hs v1 v6 v7 v8 λs' h=>h)) λe a' w' hp=> ?_;cases e with
  |normal=>obtain⟨_,_,_,h,_⟩:=hp;grind
  |exit id=>obtain⟨_,_,_,h,_⟩:=hp;grind
  |ret=>
   obtain⟨s',S',hS,hR,hr'⟩:=hp;have hS:S'=rCR:=by simpa using hS
   subst hS;obtain⟨⟨h,k1,k2⟩,k3,k4,k5,k6⟩:=hr';intro todo
   obtain⟨v,hv,hvr⟩:=WM (c:=cV) (f:=Try.f15) (D:=λx=>G x\/(B<=x/\x<w'.heap.size)) k1 k3 (λx hx=>by
    obtain h1|h1:=k1.ok.f_or x hx
    ·grind
    ·exact .inr ⟨h1,k1.ok.f_lt x hx⟩) (λr hr=>⟨Z4D.1 (Z2:(Try.f15.results.toList.all (yV Sol.prog rCR))=true) r hr,λi x hx=>.inr ⟨(k1.ok.b_lt _ _ x hx).1,(k1.ok.b_lt _ _ x hx).2.1⟩⟩) (x:=XC (fin.gr roots)) (by rw[<-hR];rfl)
   exact LS.now ⟨rfl,a',todo,rfl,k6,v,hv,hvr⟩
  |_=>exact hp.elim
end
section
def MU:∃o ats,clOps[1]?=some o/\o.guard=none/\o.dst=none/\o.op=.call ⟨.builtin .close, #[.tmp 70],ats⟩:=⟨_,_,rfl,rfl,rfl,rfl⟩
section
variable {b:Frame}{a:Act}{c:Nat}{w:World}
def Cc{cs:List Frame}(hb:b.fn=42)(hk:b.kind≠.early)(ha:a.tmps[70]?=some (.chan (some c))){s r:Nat}{tm:Bool}(hc:w.heap[c]?=some (.chan 0 #[] false s r tm)):
  stepG Try.prog false (G (b.at a [.inRegion clOps [1]]) cs) w=.go (G (b.at a [.inRegion clOps []]) cs) (cput w c (.chan 0 #[] true s r tm)) #[⟨.obj c,false,true⟩,⟨.obj c,true,true⟩]:=by
 obtain⟨o,ats,h1,h2,h3,h4⟩:=MU;have hev:a.eval (.tmp 70)=.chan (some c):=Act.eval_tmp a 70 _ ha
 have e0:execOp a.eval o=(do pure (.value (<-Builtin.close_ ats o.type #[.chan (some c)])):Sem Next):=by
  unfold execOp;simp only[h4];simp[resolve,builtin,hev];rfl
 have hr:(execOp a.eval o).run Try.prog w=.ok (.value (.tuple #[])) (cput w c (.chan 0 #[] true s r tm)):=by
  rw[e0];simp only[Z54,run_close_open ats o.type hc,Z51];rfl
 have he:(execOp a.eval o).events Try.prog w #[]=#[⟨.obj c,false,true⟩,⟨.obj c,true,true⟩]:=by
  rw[e0]
  have h2:(Builtin.close_ ats o.type #[.chan (some c)]).runT Try.prog w #[]=(.ok (.tuple #[]) (cput w c (.chan 0 #[] true s r tm)), #[⟨.obj c,false,true⟩,⟨.obj c,true,true⟩]):=by
   refine Z6R ?_ (events_close_open ats o.type hc);rw[Z6r];exact run_close_open ats o.type hc
  show((Sem.bind _ _).runT Try.prog w #[]).2=_;rw[Z6w,h2];rfl
 rw[stepG_value h1 (by simp[Region.wanted,h2]) hk hr];have e1:a.put o.dst (.tuple #[])=a:=by rw[h3];rfl
 rw[e1];unfold listed;rw[he,seen_eq (by rw[hb,Try.func42];rfl) Z1]
noncomputable def bornF:Frame:= {(default:Frame)with fn:=Try.prog.funcs.size,defers:=[],mode:=.panicking [goexitEntry]}
def D2(hb:b= {base 42 with kind:=.deferred})(hd:a.defers=[]):QuitsIn Try.prog 4 (G (b.at a [.inRegion clOps []]) [bornF]):=by
 subst hb;refine .ctl (g':=G (({base 42 with kind:=.deferred}:Frame).at a []) [bornF]) rfl (λw=>Z4r) ?_;refine .ctl (g':=G {(({base 42 with kind:=.deferred}:Frame).at a [])with mode:=.returning} [bornF]) rfl (λw=>Z4r) ?_;refine .ctl (g':=G bornF []) rfl (λw=> ?_) ?_
 ·have hf:=Try.func42;simp[G,stepG,unwind,Frame.at,hd,base,hf,results,Try.results42,doReturn,bornF,goexitEntry];rfl
 ·refine .ctl (g':= {(G bornF [])with status:=.finished}) rfl (λw=> ?_) rfl;rfl
end
def CH(l:List Int):NoM (.sl (l.map vu)):=.sl _ λc hc=>by
 have:flat (l.map vu)=l.map vu:=YG λx hx=>Z42;rw[this]at hc;obtain⟨y,_,rfl⟩:=Z4I.1 hc;exact .int _ _
def N5{n:Nat}{v:Value}(h:FixV n v)(lo m:Nat):FixV n (sliV v lo m):=by
 intro ρ hρ;have h1:=h ρ hρ;unfold sliV;split
 ·rename_i b o q k c;simp only[ren,Z4K,renA,Value.slice.injEq,Z4s,Addr.mk.injEq,Z8I]at h1
  grind [ren,renA]
 ·exact h1
def M7{n:Nat}{h:Hp}{x:Nat->Value}{p:Nat}(hx:FixV n (x p))(o:Ob):FixV n (fvV h x p o):=by
 intro ρ hρ;have:=N5 hx (o.at_+1).toNat o.size.toNat ρ hρ;simp_all[fvV,Yh,ZU,YH]
def jm{h:Hp}{x:Nat->Value}{v:Value}:∀ {n p:Nat},v∈fvs h x n p->∃q o,q<p+n/\v=fvV h x q o
 |0,p,hv=>by simp[fvs]at hv
 |n+1,p,hv=>by
  simp only[fvs,Z4R,Z4I]at hv;obtain⟨o,_,rfl⟩|hv:=hv
  ·exact⟨p,o,Z0,rfl⟩
  ·obtain⟨q,o,h1,h2⟩:=jm hv;exact⟨q,o,Z0,h2⟩
def bD:Frame:= {base 42 with kind:=.deferred}
def jf(args:Array Value):Frame.enter Try.prog 42 args .deferred=bD.at {tmps:=args++Array.replicate (71-args.size) undef,defers:=[]} [.code seC]:=by
 rfl
def Mw:ZL Sol.prog false seC=true:=Z2
def DJ:Sol.prog.funcs[Try.prog.funcs.size]?=none:=by
 grind [Array.getElem?_eq_none,Sol.prog,Vs]
def Cb{c n0:Nat}{h:Hp}{x:Nat->Value}{K:Nat->Prop}{w:World}(hh:h.ok)(hn0:w.heap.size<=n0)(hc:c<n0)(hK:∀b,K b->∃cs e fr,w.heap[b]?=some (.cells cs e fr))(hKf:∀b o,w.heap[b]?=some o->K b->FixO n0 o)
  (hx:∀j,j<5->FixV n0 (x j)) (hr:∀j,j<5->Rd w K (.sl ((lsH h j).map vu)) (x j))
  (hob:∀p,p<4->(obP h p).length<=1000000/\∀o∈obP h p,0<=o.at_/\0<=o.size/\o.at_+1+o.size<=(lsH h p).length):
  Play Try.prog false c K (XN Try.prog c) ((fvs h x 4 0).map .send) (λ_=>False) (born Try.prog {target:=.fn (.func 42) #[],args:=#[hpA h x,.chan (some c)]}) w:=by
 have hKl:∀b,K b->b<w.heap.size:=λb hb=>Z3L
 have hst:∀w1:World,stepG Try.prog false (born Try.prog {target:=.fn (.func 42) #[],args:=#[hpA h x,.chan (some c)]}) w1=.go (G (Frame.enter Try.prog 42 #[hpA h x,.chan (some c)] .deferred) [bornF]) w1 #[]:=λw1=>by
  rfl
 refine .step (λw1 hw1=>⟨_,_,_,_,hst w1,Z4A _,Z4A _,rfl,rfl,λ_ _ _=>rfl,λe he=>by simp at he⟩) λw1 g' w' es' hw1 e=> ?_;have e:=(hst w1).symm.trans e;injection e with e1 e2 e3;subst e1 e2;have hg:(grow (λ_=>False) w1 w1:Nat->Prop)=λ_=>False:=funext λb=>propext ⟨λhb=>by obtain hb|hb:=hb;exact hb;omega,λhb=>hb.elim⟩;rw[hg];refine Play.rely ?_ hw1
 let X:Cx:=cxS Try.prog Sol.prog n0 K (λ_=>False)
 have hXP:X.P=Try.prog:=Sol.sub.P n0 K (λ_=>False)
 have hargs:∀v∈ #[hpA h x,.chan (some c)],FixV n0 v:=λv hv=>by
  have:v=hpA h x\/v=.chan (some c):=by simpa using hv
  obtain rfl|rfl:=this
  ·intro ρ hρ;unfold hpA;rw[Yh];simp[ZU,YH,hx 0 Z0 ρ hρ,hx 1 Z0 ρ hρ,hx 2 Z0 ρ hρ,hx 3 Z0 ρ hρ,hx 4 Z0 ρ hρ]
  ·intro ρ hρ;simp[ren,hρ c hc]
 have hbf:∀ρ,renF ρ bornF=bornF:=λρ=>by
  simp[renF,bornF,renM,qq,goexitEntry,X8];exact⟨by show Array.map (ren ρ) #[]=#[];simp,rfl,rfl⟩
 have hw:=Om X (Sol.sub.ok n0 K (λ_=>False)) (c:=c) (es:=(fvs h x 4 0).map .send) (fr:=Frame.enter Try.prog 42 #[hpA h x,.chan (some c)] .deferred) (cs:=[bornF]) (ds:=[]) (main:=false) (wc:=w)
  (λe he=>by
   obtain⟨v,hv,rfl⟩:=Z4I.1 he;obtain⟨q,o,hq,rfl⟩:=jm hv;exact⟨M7 (hx q Z0) o,hc⟩)
  (λρ=>by
   rw[jf];refine⟨⟨λi hi=> ?_,λd hd=>by simp[Frame.at]at hd,.inr rfl,.inl ⟨_,seC,Sol.func42,Try.func42,Mv,Mw⟩⟩,λf hf=> ?_,rfl⟩
   ·have:i=.code seC:=by simpa[Frame.at]using hi
    subst this;exact Mw
   ·have:f=bornF:=by simpa using hf
    subst this;exact⟨λi hi=>(by cases hi),λd hd=>(by cases hd),.inl rfl,.inr (.inl ⟨DJ,Z6O (Z4A _)⟩)⟩)
  (λf hf=>by
   have:f=Frame.enter Try.prog 42 #[hpA h x,.chan (some c)] .deferred\/f=bornF:=by simpa using hf
   obtain rfl|rfl:=this
   ·rw[jf];intro ρ hρ
    have e1:(#[hpA h x,.chan (some c)]++Array.replicate (71- (#[hpA h x,.chan (some c)]:Array Value).size) undef).map (ren ρ)=#[hpA h x,.chan (some c)]++Array.replicate (71- (#[hpA h x,.chan (some c)]:Array Value).size) undef:=by
     rw[Z6n,VF hargs ρ hρ];simp[X8]
    simp_all[renF,Frame.at,renI,renM,bD,base]
   ·exactλρ _=>hbf ρ)
  (λb o ho hO=>by
   obtain hO|hO:=hO
   ·exact hO.elim
   ·exact hKf b o ho hO)
  (Post:=λwl=>AtCl c bD [bornF])
  (λt=>by
   rw[jf]
   exact O7 bD [bornF] (X.mask w t) h hh x c K (λb hb=>by grind [Cx.mask,cxS,Nat.lt_of_lt_of_le])
    (λj hj=>FQ (X:=X) (λb h=>h) (λb c e fr hg hc=>hg) hn0 (hr j hj) (CH _)) hob)
 have hw:Play Try.prog false c K _ ((fvs h x 4 0).map .send) (λ_=>False) (G (Frame.enter Try.prog 42 #[hpA h x,.chan (some c)] .deferred) ([bornF]++[])) w:=hXP▸hw;refine hw.mono λO g w' ⟨ρ,t,fr',cs',wl',fc,cc,hg,hid,⟨hcs,a,hfr,h70,hd⟩,hwv⟩=> ?_;subst hg hcs hfr;have htop:fc=renF ρ (bD.at a [.inRegion clOps [1]]):=hwv.top;have hund:cc=[bornF].map (renF ρ)++[]:=hwv.under
 have e1:fc=bD.at {tmps:=a.tmps.map (ren ρ),defers:=[]} [.inRegion clOps [1]]:=by
  rw[htop];simp[renF,Frame.at,hd,renM,renI,bD,base]
 have e2:cc=[bornF]:=by rw[hund];simp[hbf]
 rw[e1,e2]
 have h70':(a.tmps.map (ren ρ))[70]?=some (.chan (some c)):=by
  rw[Z50,h70];simp[ren,hid c hc]
 refine⟨rfl,?_,_,4,λs r tm hcc=>Cc rfl (by simp[bD]) h70' hcc,D2 rfl rfl⟩;rfl
end
inductive NoZ:V->Prop where
 |int (k:IntKind) (n:Int):NoZ (.int k n)
 |bool (b:Bool):NoZ (.bool b)
 |sl (l:List V):(∀y∈l,y.cells≠[])->(∀c∈flat l,NoZ c)->NoZ (.sl l)
 |agg (l:List V):(∀c∈l,NoZ c)->NoZ (.agg l)
 |tup (l:List V):(∀c∈l,NoZ c)->NoZ (.tup l)
def NoZ.m{x:V}(h:NoZ x):NoM x:=by
 induction h with
 |int k n=>exact .int k n
 |bool b=>exact .bool b
 |sl l _ _ ih=>exact .sl l ih
 |agg l _ ih=>exact .agg l ih
 |tup l _ ih=>exact .tup l ih
def Z2v{w:World}{D:Nat->Prop}{x:V}{v:Value}(h:Rd w D x v)(hm:NoZ x):Rd w (λb=>D b/\b<w.heap.size) x v:=by
 induction h with
 |int k n=>exact .int k n
 |bool b=>exact .bool b
 |nil a cap hc=>exact .nil a cap hc
 |sl l b o cap k vs h1 h2 h3 h4 h5 h6 ih=>
  cases hm with
  |sl _ hz hm=>
   cases l with
   |nil=>exact .nil _ cap h2
   |cons y l=>
    have hk:0<k:=by
     rw[<-(h4 y Z1).1];exact Z7a.2 (hz y Z1)
    have hlt:=Lk (h5 0 Z3M);exact .sl _ b o cap k vs h1 h2 ⟨h3,hlt⟩ h4 h5 λi c hi=>ih i c hi (hm c (Tq hi))
 |agg cs vs h1 h2 _ ih=>
  cases hm with
  |agg _ hm=>exact .agg cs vs h1 h2 λi c hi=>ih i c hi (hm c (Z4B hi))
 |tup l vs h1 _ ih=>
  cases hm with
  |tup _ hm=>exact .tup l vs h1 λi c hi=>ih i c hi (hm c (Z4B hi))
 |_=>cases hm
def NY{w:World}{D:Nat->Prop}{x:V}{v:Value}(h:Rd w D x v)(hm:NoZ x):Rd w (λb=>D b/\∃cs e fr,w.heap[b]?=some (.cells cs e fr)) x v:=by
 induction h with
 |int k n=>exact .int k n
 |bool b=>exact .bool b
 |nil a cap hc=>exact .nil a cap hc
 |sl l b o cap k vs h1 h2 h3 h4 h5 h6 ih=>
  cases hm with
  |sl _ hz hm=>
   cases l with
   |nil=>exact .nil _ cap h2
   |cons y l=>
    have hk:0<k:=by
     rw[<-(h4 y Z1).1];exact Z7a.2 (hz y Z1)
    obtain⟨_,c,e,fr,hb,_⟩:=Wz (h5 0 Z3M);exact .sl _ b o cap k vs h1 h2 ⟨h3,c,e,fr,hb⟩ h4 h5 λi c hi=>ih i c hi (hm c (Tq hi))
 |agg cs vs h1 h2 _ ih=>
  cases hm with
  |agg _ hm=>exact .agg cs vs h1 h2 λi c hi=>ih i c hi (hm c (Z4B hi))
 |tup l vs h1 _ ih=>
  cases hm with
  |tup _ hm=>exact .tup l vs h1 λi c hi=>ih i c hi (hm c (Z4B hi))
 |_=>cases hm
def r8(l:List Int):NoZ (.sl (l.map vu)):=.sl _ (λy hy=>by obtain⟨z,_,rfl⟩:=Z4I.1 hy;simp) λc hc=>by
 rw[YG λx hx=>Z42]at hc;obtain⟨y,_,rfl⟩:=Z4I.1 hc;exact .int _ _
def p9(l:List Int):NoZ (.sl (l.map vi)):=.sl _ (λy hy=>by obtain⟨z,_,rfl⟩:=Z4I.1 hy;simp) λc hc=>by
 rw[YG λx hx=>Z42]at hc;obtain⟨y,_,rfl⟩:=Z4I.1 hc;exact .int _ _
def Mg(g:Gr):NoZ (grV g):=.agg _ λc hc=>by
 have:c=.sl (g.nodes.map ndV)\/c=.sl (g.roots.map vi):=by simpa using hc
 obtain rfl|rfl:=this
 ·refine .sl _ (λy hy=>by obtain⟨z,_,rfl⟩:=Z4I.1 hy;simp) λc hc=> ?_;obtain⟨y,hy,hc⟩:=Z6o.1 hc;obtain⟨n,_,rfl⟩:=Z4I.1 hy;have:c=.sl (n.ptrs.map vi)\/c=.sl (n.data.map vu):=by simpa using hc
  obtain rfl|rfl:=this
  ·exact p9 _
  ·exact r8 _
 ·exact p9 _
def yO(g:Gr):NoZ (XC g):=by
 unfold XC;split
 all_goals
  refine .tup _ λc hc=> ?_;simp only[Z4H,Z5t,Z6u]at hc;obtain rfl|rfl:=hc
  ·exact Mg _
  ·exact .int _ _
def KP(h:Hp):NoM (hpV h):=.agg _ λc hc=>by
 simp only[Z4H,Z5t,Z6u]at hc;obtain rfl|rfl|rfl|rfl|rfl|rfl|rfl|rfl|rfl|rfl:=hc
 all_goals first|exact .int _ _|exact .bool _|exact CH _
noncomputable def ops4:Array Oper:=Fx (cAt ofC [1,1,1,0])
def NN:(ops4.all λo=>okOp Sol.prog false o.op)=true:=Z2
def O2:ZL Sol.prog false (cAt ofC [1,1,1,1])=true:=Z2
def u9:Sol.prog.funcs[15]?=some (refF Try.f15):=by
 have:=Try.func15;simp only[Sol.prog,Vs,Z7q,this,Z4K];rfl
def Bj{X:Cx}{w:World}{t:Nat->Question->Nat}{b:Nat}{cs:Array Value}{T:TypeId}(h:w.heap[b]?=some (.cells cs T (0,0)))(hO:X.O b)(hb:b<X.n0):(X.mask w t).heap[b]?=some (.cells cs T (0,0)):=by
 rw[LJ,if_pos hb,h];unfold Cx.maskO;dsimp only;rw[if_pos hO,if_pos ⟨trivial,λc e fr e2=>Z3L⟩]
def FT{B b1 b2:Nat}{a:Act}{T1 T2:TypeId}{K:Nat->Prop}{h:Hp}{x:Nat->Value}{wl:World}
  (hsz:a.tmps.size=82) (hd:a.defers=[]) (t1:a.tmps[1]?=some (.pointer (some ⟨b1,0,none⟩))) (t2:a.tmps[2]?=some (.pointer (some ⟨b2,0,none⟩))) (t3:a.tmps[3]?=some (.int .i64 0))
  (hb1:wl.heap[b1]?=some (.cells #[.int .u64 h.base,.int .i64 h.cap,.int .i64 h.to,.bool h.cycle,.int .i64 h.scan,x 0,x 1,x 2,x 3,x 4] T1 (0,0))) (hb2:wl.heap[b2]?=some (.cells #[.slice none 0 0,.slice none 0 0] T2 (0,0)))
  (hB1:B<=b1) (hB2:B<=b2) (h12:b1≠b2) (k1:¬K b1) (k2:¬K b2) (hK:∀b,K b->b<wl.heap.size) (hr:∀j,j<5->Rd wl K (.sl ((lsH h j).map vu)) (x j)):
  RelS K [4,23] a.tmps cV B K wl 82 [.no,.m [vu h.base,vi h.cap,vi h.to,.bool h.cycle,vi h.scan,.sl (h.low.map vu),.sl (h.high.map vu),.sl (h.old.map vu),.sl (h.far.map vu),.sl (h.roots.map vu)],.m [.sl [],.sl []],.v (vi 0)] a wl r5S:=by
 have l1:=(Z4z.1 hb1).1;have l2:=(Z4z.1 hb2).1;have i1:cV.ix 1=1:=Z3O;have i2:cV.ix 2=2:=Z3O;have i3:cV.ix 3=3:=Z3O;refine⟨⟨{F:=K,bl:=λt i=>if t=1/\i=0 then some b1 else if t=2/\i=0 then some b2 else none,K:=K},⟨⟨Z0,hK,λb hb=>.inl hb,λb hb=>hb,λt i b hb=> ?_,λt i u j b hb hb'=> ?_,hK,λt i b hb=> ?_,λb hb=>.inl hb⟩,λt _ hk=> ?_,λt hh=> ?_⟩,rfl⟩,λp hp=> ?_,.refl _ _,hsz,hd⟩
 ·grind
 ·grind
 ·grind
 ·rw[Zh]at hk⊢;by_cases e1:t=1
  ·subst e1;refine⟨_,t1,b1,_,T1,rfl,rfl,hb1,rfl,λi y hi=> ?_⟩;have hi10:i<10:=(Z4v.1 hi).1
   match i,hi10 with
   |0,_=>cases hi;exact⟨_,Z4r,rfl,.int _ _⟩
   |1,_=>cases hi;exact⟨_,Z4r,rfl,.int _ _⟩
   |2,_=>cases hi;exact⟨_,Z4r,rfl,.int _ _⟩
   |3,_=>cases hi;exact⟨_,Z4r,rfl,.bool _⟩
   |4,_=>cases hi;exact⟨_,Z4r,rfl,.int _ _⟩
   |5,_=>cases hi;exact⟨_,Z4r,rfl,hr 0 Z0⟩
   |6,_=>cases hi;exact⟨_,Z4r,rfl,hr 1 Z0⟩
   |7,_=>cases hi;exact⟨_,Z4r,rfl,hr 2 Z0⟩
   |8,_=>cases hi;exact⟨_,Z4r,rfl,hr 3 Z0⟩
   |9,_=>cases hi;exact⟨_,Z4r,rfl,hr 4 Z0⟩
   |i+10,h=>omega
  ·by_cases e2:t=2
   ·subst e2;refine⟨_,t2,b2,_,T2,rfl,rfl,hb2,rfl,λi y hi=> ?_⟩;have hi2:i<2:=(Z4v.1 hi).1
    match i,hi2 with
    |0,_=>cases hi;exact⟨_,Z4r,rfl,.nil _ _ (Z5H _)⟩
    |1,_=>cases hi;exact⟨_,Z4r,rfl,.nil _ _ (Z5H _)⟩
    |i+2,h=>omega
   ·by_cases e3:t=3
    ·subst e3;exact⟨_,t3,_,Z4r,.int _ _⟩
    simp_all[r5S,SS.at,Z6K,TK.isNo]
 ·refine absurd ?_ hh;rw[Zh];split<;>exact Y5 _
 grind [r5S,SS.at]
def EndM(cs:List Frame)(r:V)(D:Nat->Prop)(g:Goroutine)(w:World):Prop:=
 ∃fr,g=G fr cs/\fr.fn=15/\fr.mode=.returning/\fr.defers=[]/\fr.kind=.normal/\∀d,∃v,(results Try.f15 fr.tmps).run Try.prog (w.at d)=.ok v (w.at d)/\Rd (w.at d) (λb=>D b/\b<w.heap.size) r v
def F6{c n0 B b1 b2:Nat}{a:Act}{T1 T2:TypeId}{K:Nat->Prop}{h:Hp}{x:Nat->Value}{w:World}{cs:List Frame}{fs:List (Fo×Value)}{fin:Vw}(hh:h.ok)
  (hsz:a.tmps.size=82) (hd:a.defers=[]) (t1:a.tmps[1]?=some (.pointer (some ⟨b1,0,none⟩))) (t2:a.tmps[2]?=some (.pointer (some ⟨b2,0,none⟩))) (t3:a.tmps[3]?=some (.int .i64 0)) (t4:a.tmps[4]?=some (.chan (some c)))
  (hb1:w.heap[b1]?=some (.cells #[.int .u64 h.base,.int .i64 h.cap,.int .i64 h.to,.bool h.cycle,.int .i64 h.scan,x 0,x 1,x 2,x 3,x 4] T1 (0,0))) (hb2:w.heap[b2]?=some (.cells #[.slice none 0 0,.slice none 0 0] T2 (0,0)))
  (hBw:B<=w.heap.size) (hB1:B<=b1) (hB2:B<=b2) (h12:b1≠b2) (k1:¬K b1) (k2:¬K b2) (hn0:w.heap.size<=n0) (hc:c<n0)
  (hK:∀b,K b->∃cs e fr,w.heap[b]?=some (.cells cs e fr)) (hKf:∀(b:Nat) (cs:Array Value) (e:TypeId) (fr:Nat×Nat),w.heap[b]?=some (Obj.cells cs e fr)->FixO n0 (Obj.cells cs e fr)) (hfT:∀v∈a.tmps,FixV n0 v) (hx:∀j,j<5->FixV n0 (x j))
  (hr:∀j,j<5->Rd w K (.sl ((lsH h j).map vu)) (x j)) (hfs:∀y∈fs,Rd w K (foV y.1) y.2/\NoM (foV y.1)) (hev:fs.map (·.2)=fvs h x 4 0) (hn:fs.length<=4000000) (hfin:(fs.map (·.1)).foldl Vw.put ⟨[],[],[]⟩=fin) (hs:fin.sm h.roots):
  Play Try.prog true c K (λ_=>EndM cs (XC (fin.gr h.roots)) (λb=>K b\/B<=b)) ((fvs h x 4 0).map .recv++[.closed zF]) (λb=>b=b1\/b=b2) (G ((base 15).at a [.inRegion ops4 [],.code (cAt ofC [1,1,1,1])]) cs) w:=by
 have hKl:∀b,K b->b<w.heap.size:=λb hb=>Z3L;have l1:=(Z4z.1 hb1).1;have l2:=(Z4z.1 hb2).1
 let X:Cx:=cxS Try.prog Sol.prog n0 K (λb=>b=b1\/b=b2)
 have hXP:∀ρ,(X.at ρ).P=Try.prog:=λρ=>Sol.sub.same.symm;have hmz:∀t,(X.mask w t).heap.size=n0:=λt=>by simp[Cx.mask,X,cxS]
 have hes:(fvs h x 4 0).map Ev.recv=fs.map λy=>.recv y.2:=by rw[<-hev,Z6F];rfl
 have hOK:∀b,(b=b1\/b=b2)->¬K b:=λb hb=>Z3L
 have hw:=Om X (Sol.sub.ok n0 K (λb=>b=b1\/b=b2)) (c:=c) (es:=(fvs h x 4 0).map .recv++[.closed zF]) (fr:=(base 15).at a [.inRegion ops4 [],.code (cAt ofC [1,1,1,1])]) (cs:=[]) (ds:=cs) (main:=true) (wc:=w)
  (λe he=>by
   obtain he|he:=Z4R.1 he
   ·obtain⟨v,hv,rfl⟩:=Z4I.1 he;obtain⟨q,o,hq,rfl⟩:=jm hv;exact⟨M7 (hx q Z0) o,hc⟩
   ·have:e=.closed zF:=by simpa using he
    subst this;exact⟨λρ _=>by simp_all[zF,Yh,ren],hc⟩)
  (λρ=>by
   refine⟨⟨λi hi=> ?_,λd hd'=> ?_,.inl rfl,.inr (.inr ⟨_,_,u9,Try.func15,rfl⟩)⟩,λf hf=>by simp at hf,rfl⟩
   ·have:i=.inRegion ops4 []\/i=.code (cAt ofC [1,1,1,1]):=by simpa[Frame.at]using hi
    obtain rfl|rfl:=this
    ·exact NN
    ·exact O2
   ·rw[show((base 15).at a [.inRegion ops4 [],.code (cAt ofC [1,1,1,1])]).defers=a.defers from rfl,hd]at hd';simp at hd')
  (λf hf=>by
   have:f=(base 15).at a [.inRegion ops4 [],.code (cAt ofC [1,1,1,1])]:=by simpa using hf
   subst this;intro ρ hρ;simp only[renF,Frame.at,VF hfT ρ hρ,hd];rfl)
  (λb o ho hO=>by
   obtain hO|hO:=hO
   ·obtain rfl|rfl:=hO
    ·rw[hb1]at ho;cases ho;exact hKf _ _ _ _ hb1
    ·rw[hb2]at ho;cases ho;exact hKf _ _ _ _ hb2
   ·obtain⟨cs,e,fr,he⟩:=hK b hO;rw[ho]at he;cases he;exact hKf _ _ _ _ ho)
  (Post:=λwl=>OH (base 15) (λw' b=>K b\/(B<=b/\b<w'.heap.size)) (XC (fin.gr h.roots)))
  (λt=>by
   rw[hes]
   have hrm:∀ {y:V} {v:Value},Rd w K y v->NoM y->Rd (X.mask w t) K y v:=λ{y v} h1 h2=>by
    clear hfs
    induction h1 with
    |int k n=>exact .int k n
    |bool b=>exact .bool b
    |str s=>exact .str s
    |nil a cap h=>exact .nil a cap h
    |sl l b o cap k vs q1 q2 hb hf hc' _ ih=>
     cases h2 with
     |sl _ hm=>exact .sl l b o cap k vs q1 q2 hb hf (λi hi=>TC (λho=>hOK b ho hb) (λc e fr _=>hb) hn0 (hc' i hi)) λi c hi=>ih i c hi (hm c (Tq hi))
    |agg cs vs q1 q2 _ ih=>
     cases h2 with
     |agg _ hm=>exact .agg cs vs q1 q2 λi c hi=>ih i c hi (hm c (Z4B hi))
    |tup l vs q1 _ ih=>
     cases h2 with
     |tup _ hm=>exact .tup l vs q1 λi c hi=>ih i c hi (hm c (Z4B hi))
    |ptr cs b o vs hb q1 hc' _ ih=>
     cases h2 with
     |ptr _ hm=>exact .ptr cs b o vs hb q1 (λi hi=>TC (λho=>hOK b ho hb) (λc e fr _=>hb) hn0 (hc' i hi)) λi c hi=>ih i c hi (hm c (Z4B hi))
    |fn f=>exact .fn f
    |clo f cs vs q1 _ ih=>
     cases h2 with
     |clo _ _ hm=>exact .clo f cs vs q1 λi c hi=>ih i c hi (hm c (Z4B hi))
    |nul0=>exact .nul0
    |nul1=>exact .nul1
    |nomp=>cases h2
    |mp=>cases h2
   refine LS.regEnd (NL (G:=K) (B:=B) (FT hsz hd t1 t2 t3 (Bj hb1 (.inl rfl) (by show b1<n0;omega)) (Bj hb2 (.inr rfl) (by show b2<n0;omega)) hB1 hB2 h12 k1 k2 (λb hb=>Z3L) λj hj=>hrm (hr j hj) (CH _)) t4 rfl (λy hy=>hrm (hfs y hy).1 (hfs y hy).2) hn hfin hs))
 have hw:Play Try.prog true c K _ ((fvs h x 4 0).map .recv++[.closed zF]) (λb=>b=b1\/b=b2) (G ((base 15).at a [.inRegion ops4 [],.code (cAt ofC [1,1,1,1])]) ([]++cs)) w:=(hXP id)▸hw;refine hw.mono λO g w' ⟨ρ,t,fr',cs',wl',fc,cc,hg,hid,⟨hcs,a',todo,hfr,hd',v,hv,hvr⟩,hwv⟩=> ?_;subst hg hcs hfr;have htop:fc=renF ρ {(base 15).at a' todo with mode:=.returning}:=hwv.top;have hund:cc=cs:=hwv.under;subst hund;refine⟨fc,rfl,by rw[htop];rfl,by rw[htop];rfl,by rw[htop];show a'.defers.map _=_;grind,by rw[htop];rfl,λd=> ?_⟩;have hwr:(X.at ρ).WR wl' (w'.at d):=OO hwv.wr d;have hlook:=R8 Try.f15 (a'.tmps.map (ren ρ));have hwd:wdR ((results Try.f15 (a'.tmps.map (ren ρ))).run Try.prog (w'.at d))=w'.at d:=hlook.world _
 have htold:=(UQ (X:=X.at ρ) (V:=[]) Try.f15 a'.tmps).run wl' (w'.at d) #[] hwr (λr hr=>by simp at hr)
  (λj hj=>by
   rw[hXP ρ]at hj;have e:(wdR ((results Try.f15 (a'.tmps.map (ren (X.at ρ).ρ))).run Try.prog (w'.at d))).drawn=(w'.at d).drawn:=Z5J World.drawn hwd;omega)
  (λj hj=>by
   rw[hXP ρ]at hj;have e:(wdR ((results Try.f15 (a'.tmps.map (ren (X.at ρ).ρ))).run Try.prog (w'.at d))).heap.size=(w'.at d).heap.size:=Z5J (λw=>w.heap.size) hwd;omega)
 have h5':(results Try.f15 a'.tmps).run (X.at ρ).Q wl'=.ok v wl':=hv;rw[h5',hXP ρ]at htold;obtain⟨b,wc',es',he,hb',haf⟩:=htold
 have hrun:(results Try.f15 (a'.tmps.map (ren ρ))).run Try.prog (w'.at d)=.ok b wc':=by
  have:=Z5J Prod.fst he;rw[Z6r]at this;exact this
 have hwc:wc'=w'.at d:=by
  have:=hwd;rw[hrun]at this;exact this
 subst hwc;have hb'':b=ren ρ v:=hb';refine⟨b,by rw[htop];exact hrun,?_⟩;rw[hb''];refine(Z2v (Mr hwr hvr (yO _).m) (yO _)).mono λb' hb1'=> ?_;obtain⟨⟨z,hz,rfl⟩,hlt⟩:=hb1';refine⟨?_,hlt⟩;by_cases hzn:z<n0
 ·have e:(X.at ρ).ρ z=z:=hid z hzn
  grind
 ·obtain hz|hz:=hz
  ·grind
  ·right;have:=hwv.new z (Nat.le_of_not_lt hzn) hz.2;omega
def foP(h:Hp)(p:Nat)(o:Ob):Fo:=⟨o,(ZG (layH h) ((p:Int)+1) o.at_).1,((lsH h p).drop (o.at_+1).toNat).take o.size.toNat⟩
def fos(h:Hp):Nat->Nat->List Fo
 |0,_=>[]
 |n+1,p=>(obP h p).map (foP h p)++fos h n (p+1)
def frs(h:Hp)(x:Nat->Value):Nat->Nat->List (Fo×Value)
 |0,_=>[]
 |n+1,p=>(obP h p).map (λo=>(foP h p o,fvV h x p o))++frs h x n (p+1)
def jl(h:Hp)(x:Nat->Value):∀(n p:Nat),(frs h x n p).map (·.1)=fos h n p
 |0,p=>rfl
 |n+1,p=>by simp_all[frs,fos,Z5F,Z6F,jl]
def El(h:Hp)(x:Nat->Value):∀(n p:Nat),(frs h x n p).map (·.2)=fvs h x n p
 |0,p=>rfl
 |n+1,p=>by simp_all[frs,fvs,Z5F,Z6F,El]
def Ek{h:Hp}{x:Nat->Value}{y:Fo×Value}:∀ {n p:Nat},y∈frs h x n p->∃q o,q<p+n/\o∈obP h q/\y=(foP h q o,fvV h x q o)
 |0,p,hv=>by simp[frs]at hv
 |n+1,p,hv=>by
  simp only[frs,Z4R,Z4I]at hv;obtain⟨o,ho,rfl⟩|hv:=hv
  ·exact⟨p,o,Z0,ho,rfl⟩
  ·obtain⟨q,o,h1,h2⟩:=Ek hv;exact⟨q,o,Z0,h2⟩
def Yk(h:Hp):Vw:=(fos h 4 0).foldl Vw.put ⟨[],[],[]⟩
def ofR(h:Hp):V:=if YC h=true then XC ((Yk h).gr h.roots)else .tup [grV noGr,vi 1]
structure OfOk (h:Hp):Prop where
 ob:∀p,p<4->(obP h p).length<=1000000/\∀o∈obP h p,0<=o.at_/\0<=o.size/\o.at_+1+o.size<=(lsH h p).length
 n:(fos h 4 0).length<=4000000
 sm:(Yk h).sm h.roots
def Z0r{w:World}{K:Nat->Prop}{l:List Int}{v:Value}(h:Rd w K (.sl (l.map vu)) v){lo n:Nat}(h0:0<l.length)(hn:lo+n<=l.length):Rd w K (.sl (((l.drop lo).take n).map vu)) (sliV v lo n):=by
 generalize hL:l.map vu=L at h;have hlen:L.length=l.length:=by rw[<-hL,Z56]
 cases h with
 |nil a cap hc=>simp_all
 |sl _ b o cap k vs h1 h2 h3 h4 h5 h6=>
  have hk:k=1:=by
   have hm:vu (l[0]'h0)∈L:=by rw[<-hL];exact List.mem_map_of_mem (Z4J h0)
   have:=(h4 _ hm).1;simpa[vu,V.cells]using this.symm
  subst hk;unfold sliV;dsimp only;have hl2:(((l.drop lo).take n).map vu).length=n:=Z3N;by_cases hz:n=0
  ·subst hz;simp only[Z8B,Z6a];exact .nil _ _ Z0
  ·rw[if_neg Z0]
   have:=Rd.sl (w:=w) (G:=K) (((l.drop lo).take n).map vu) b (o+lo) (cap-lo) 1 (λi=>vs (lo+i)) Z0 Z0 h3 (λx hx=>Z3L)
    (λi hi=>Z3L)
    (λi c hi=>by
     rw[YG λx hx=>Z42,Z4M,Z55]at hi;split at hi
     ·rw[Z5d]at hi;exact h6 (lo+i) c (by rw[<-hL,YG λx hx=>Z42,Z4M];exact hi)
     ·cases hi)
   simp_all
def p5(f:Fo):NoM (foV f):=.agg _ λc hc=>by
 simp only[Z4H,Z5t,Z6u]at hc;obtain rfl|rfl|rfl|rfl|rfl|rfl|rfl:=hc
 all_goals first|exact .int _ _|exact .bool _|exact CH _
def i6{w:World}{K:Nat->Prop}{h:Hp}{x:Nat->Value}(hk:OfOk h)(hr:∀j,j<5->Rd w K (.sl ((lsH h j).map vu)) (x j)):∀y∈frs h x 4 0,Rd w K (foV y.1) y.2/\NoM (foV y.1):=by
 intro y hy;obtain⟨q,o,hq,ho,rfl⟩:=Ek hy;refine⟨?_,p5 _⟩;obtain⟨h1,h2,h3⟩:=(hk.ob q Z0).2 o ho;refine .agg _ _ rfl Z1 λi c hi=> ?_
 match i,hi with
 |0,hi=>cases hi;exact .int _ _
 |1,hi=>cases hi;exact .int _ _
 |2,hi=>cases hi;exact .int _ _
 |3,hi=>cases hi;exact .bool _
 |4,hi=>cases hi;exact .int _ _
 |5,hi=>cases hi;exact .int _ _
 |6,hi=>cases hi;exact Z0r (hr q Z0) Z0 Z0
noncomputable def cB:Ctx:= {P:=bes Try.prog,ix:=(vf (bes Try.prog)).ix,own:=λ_=>false,fresh,sig:=sigV,tr:=[3],n:=82}
def AM{P:Program}:∀ {c:Code},JM P c=true->Th (Lg.fit (bes P)) c:=by
 intro c
 induction c with
 |region id ops d=>exactλh o ho=>(Z6p.1 h) o ho
 |seq x y hx hy=>intro h;simp only[JM,Z4x]at h;exact⟨hx h.1,hy h.2⟩
 |cond c x y hx hy=>intro h;simp only[JM,Z4x]at h;exact⟨hx h.1,hy h.2⟩
 |block id x hx=>exact hx
 |loop x hx=>exact hx
 |scope x hx=>exact hx
 |_=>intro h;first|trivial|cases h
def Tr:(bes Try.prog).follows .mixedOrders=true:=Z2
def yS{code:Code}{S:SS}{st:Stm}{fl:Flow}{B:Nat}{G Kf:Nat->Prop}{s:St}{a:Act}{w w0:World}{T0:Array Value}{N:St->Prop}{X:Nat->St->Prop}{Rt:St->Prop}(hf:JM Try.prog code=true)(hc:comp (vf (bes Try.prog)) code S=some (st,fl))(hr:RelS Kf [4,23] T0 cB B G w0 82 s a w S)(hw:wpS (bes Try.prog) st s N X Rt):
  wpB Try.prog code (Post Kf [4,23] T0 cB B G w0 82 fl N X Rt) a w:=
 letI:Lg (vf (bes Try.prog)).P:=besI Try.prog
 Sg (fc:=vf (bes Try.prog)) Tr (λp hp q hq he=>Aa (Z6d _ hp) (Z6d _ hq) he) rfl rfl rfl (Z4A _) code (AM hf) hc hr hw
def t8:Try.f15.body=some ofC:=Z2
def NK:ofC=.seq (cAt ofC [0]) (.seq (cAt ofC [1,0]) (.seq (cAt ofC [1,1,0]) (.seq (cAt ofC [1,1,1,0]) (cAt ofC [1,1,1,1])))):=Z2
noncomputable def ops3:Array Oper:=Fx (cAt ofC [1,1,0])
def Z2q:cAt ofC [1,1,0]=.region 3 ops3 false:=Z2
def Z2r:cAt ofC [1,1,1,0]=.region 4 ops4 false:=Z2
def Z03:∃o,ops3[0]?=some o/\o.guard=none/\o.dst=some 18/\o.op=.makeChan 81 (.const (.int .i64 0)):=⟨_,rfl,rfl,rfl,rfl⟩
def Z04:∃o,ops3[1]?=some o/\o.guard=none/\o.dst=some 4/\o.op=.assign (.tmp 18):=⟨_,rfl,rfl,rfl,rfl⟩
def Z05:∃o,ops4[0]?=some o/\o.guard=none/\o.dst=some 19/\o.op=.load 37 (.tmp 1):=⟨_,rfl,rfl,rfl,rfl⟩
def Z06:∃o,ops4[1]?=some o/\o.guard=none/\o.dst=some 20/\o.op=.move (.tmp 4):=⟨_,rfl,rfl,rfl,rfl⟩
def Z07:∃o ats,ops4[2]?=some o/\o.guard=none/\o.dst=none/\o.op=.go ⟨.value (.func 42), #[.tmp 19,.tmp 20],ats⟩:=⟨_,_,rfl,rfl,rfl,rfl⟩
def yY:ops3.size=2/\ops4.size=3:=⟨rfl,rfl⟩
def H7:∃d inf,Try.prog.underlying 81=some (.chan d 87)/\Try.prog.info? 87=some inf:=⟨_,_,rfl,rfl⟩
def H4{B:Nat}{w w':World}(h:Below B w w')(d:Nat):Below B w (w'.at d):=⟨h.os,h.tape,h.output,h.size,h.block⟩
def Nb{b:Frame}{k:List Item}{cs:List Frame}{a:Act}{hv:Value}{c:Nat}(hk:b.kind≠.early)(h19:a.tmps[19]?=some hv)(h20:a.tmps[20]?=some (.chan (some c)))(w:World):
  stepG Try.prog true (G (b.at a (.inRegion ops4 [2]::k)) cs) w=.spawn (G (b.at a (.inRegion ops4 []::k)) cs) (born Try.prog {target:=.fn (.func 42) #[],args:=#[hv,.chan (some c)]}) w #[]:=by
 obtain⟨o,ats,o1,o2,o3,o4⟩:=Z07;have e1:=Act.eval_tmp a 19 _ h19;have e2:=Act.eval_tmp a 20 _ h20
 have e0:execOp a.eval o=(pure (.spawn {target:=.fn (.func 42) #[],args:=#[hv,.chan (some c)]}):Sem Next):=by
  unfold execOp;simp only[o4];simp[resolve,Deferred.ofValue,Act.eval,h19,h20]
 have:=stepG_spawn (P:=Try.prog) (main:=true) (b:=b) (a:=a) (k:=k) (cs:=cs) (w:=w) (i:=2) (rest:=[]) o1 (by simp[Region.wanted,o2]) hk (by rw[e0];rfl) rfl;rw[o3]at this;rw[this];unfold listed;rw[e0];rfl
def I5{h:Hp}{B:Nat}{G:Nat->Prop}{s:St}{a:Act}{w w0:World}{T0:Array Value}(hr:RelS G [4,23] T0 cB B G w0 82 s a w rXN)(q1:get s 1=.m [vu h.base,vi h.cap,vi h.to,.bool h.cycle,vi h.scan,.sl (h.low.map vu),.sl (h.high.map vu),.sl (h.old.map vu),.sl (h.far.map vu),.sl (h.roots.map vu)])(q3:get s 3=.v (vi 0)):
  ∃(F:Nat->Prop) (b1 b2:Nat) (T1 T2:TypeId) (x:Nat->Value),(∀b,F b->G b\/B<=b)/\¬F b1/\¬F b2/\B<=b1/\B<=b2/\b1≠b2/\B<=w.heap.size/\a.tmps[1]?=some (.pointer (some ⟨b1,0,none⟩))/\a.tmps[2]?=some (.pointer (some ⟨b2,0,none⟩))/\a.tmps[3]?=some (.int .i64 0)/\
   w.heap[b1]?=some (.cells #[.int .u64 h.base,.int .i64 h.cap,.int .i64 h.to,.bool h.cycle,.int .i64 h.scan,x 0,x 1,x 2,x 3,x 4] T1 (0,0))/\w.heap[b2]?=some (.cells #[.slice none 0 0,.slice none 0 0] T2 (0,0))/\
   (∀j,j<5->Rd w F (.sl ((lsH h j).map vu)) (x j)):=by
 obtain⟨⟨h1,k1,k2⟩,k3,k4,k5,k6⟩:=hr;have i1:cB.ix 1=1:=Z3O;have i3:cB.ix 3=3:=Z3O;obtain⟨u1,t1,b1,vs1,T1,f1,rfl,f3,f4⟩:=k1.at_ 1 (by rw[Zh];exact Y5 _) Z4r;obtain⟨u2,t2,b2,vs2,T2,g1,rfl,g3,g4⟩:=k1.at_ 2 (by rw[Zh];exact Y5 _) Z4r;obtain⟨u3,t3,hk3⟩:=k1.at_ 3 (by rw[Zh];exact Y5 _) Z4r;obtain⟨y3,hy3,hr3⟩:∃y,eval s (.s (cB.ix 3))=some y/\Rd w (h1.ext []) y u3:=hk3;rw[i3]at hy3;simp only[eval,q3,Z4s]at hy3;subst hy3;have e3:=Vf hr3;subst e3;have hs1:vs1.size=10:=f4.1;have hs2:vs2.size=2:=g4.1
 have hc:∀(i:Nat) (y:V),[vu h.base,vi h.cap,vi h.to,.bool h.cycle,vi h.scan,.sl (h.low.map vu),.sl (h.high.map vu),.sl (h.old.map vu),.sl (h.far.map vu),.sl (h.roots.map vu)][i]?=some y->Rd w h1.F y (vs1.getD i undef):=λi y hi=>by
  have hi10:i<10:=(Z4v.1 hi).1
  have:=f4.2 i (.fz,.m (cB.ix 1) i) (by
   match i,hi10 with
   |0,_=>rfl
   |1,_=>rfl
   |2,_=>rfl
   |3,_=>rfl
   |4,_=>rfl
   |5,_=>rfl
   |6,_=>rfl
   |7,_=>rfl
   |8,_=>rfl
   |9,_=>rfl
   |i+10,h=>omega)
  obtain⟨z,z1,z2,z3⟩:=this;rw[i1]at z1;simp only[eval,q1,hi,Z4E]at z1;obtain⟨rfl,_⟩:=X2 z1;exact z3
 have hn:∀i,i<2->vs2.getD i undef=.slice none 0 0:=λi hi=>by
  have:=g4.2 i (.nil,.m (cB.ix 2) i) (by
   grind)
  exact this.1
 have ev1:vs1=#[.int .u64 h.base,.int .i64 h.cap,.int .i64 h.to,.bool h.cycle,.int .i64 h.scan,vs1.getD 5 undef,vs1.getD 6 undef,vs1.getD 7 undef,vs1.getD 8 undef,vs1.getD 9 undef]:=by
  refine Z7Y Z0 λi q w'=> ?_;have hi:i<10:=by simpa using w'
  have e:vs1[i]=vs1.getD i undef:=by simp[Array.getD,q]
  rw[e]
  match i,hi with
  |0,_=>exact Vf (hc 0 _ rfl)
  |1,_=>exact Vf (hc 1 _ rfl)
  |2,_=>exact Vf (hc 2 _ rfl)
  |3,_=>exact By (hc 3 _ rfl)
  |4,_=>exact Vf (hc 4 _ rfl)
  |5,_=>rfl
  |6,_=>rfl
  |7,_=>rfl
  |8,_=>rfl
  |9,_=>rfl
  |i+10,h=>omega
 have ev2:vs2=#[.slice none 0 0,.slice none 0 0]:=by
  refine Z7Y Z0 λi q w'=> ?_;have hi:i<2:=by simpa using w'
  have e:vs2[i]=vs2.getD i undef:=by simp[Array.getD,q]
  rw[e,hn i hi]
  match i,hi with
  |0,_=>rfl
  |1,_=>rfl
  |i+2,h=>omega
 obtain⟨m1,m2,m3⟩:=k1.ok.b_lt 1 0 b1 f1;obtain⟨n1,n2,n3⟩:=k1.ok.b_lt 2 0 b2 g1;refine⟨h1.F,b1,b2,T1,T2,λj=>vs1.getD (5+j) undef,k1.ok.f_or,m3,n3,m1,n1,λe=> ?_,k1.ok.base,t1,t2,t3,Z3L,Z3L,λj hj=> ?_⟩
 ·grind
 ·match j,hj with
  |0,_=>exact hc 5 _ rfl
  |1,_=>exact hc 6 _ rfl
  |2,_=>exact hc 7 _ rfl
  |3,_=>exact hc 8 _ rfl
  |4,_=>exact hc 9 _ rfl
  |j+5,h=>omega
def OL{h:Hp}(hh:h.ok)(hk:YC h=true->OfOk h):VC (bes Try.prog) 15 false [hpV h] (ofR h):=by
 refine⟨Z2,λw G vs hG hsz hrd cs Stop hK=> ?_⟩;have hright:VC (bes Try.prog) 25 false [hpV h] (.bool (YC h)):=EW Sol.sub (Z1I hh) (λy hy=>by rw[Z5x.1 hy];exact KP h) (.bool _);have hs1:vs.size=1:=hsz;have hv0:Rd w G (hpV h) (vs.getD 0 undef):=hrd 0 _ rfl
 have hent:Frame.enter Try.prog 15 vs .normal=(base 15).at {tmps:=vs++Array.replicate (82-vs.size) undef,defers:=[]} [.code ofC]:=by
  rw[enter_at vs Try.func15 t8,Try.ntmps15]
 show Walk Try.prog Stop (Frame.enter Try.prog 15 vs .normal) cs w;rw[hent,NK];clear hent;have i0:cB.ix 0=0:=Z3O;generalize ha0:({tmps:=vs++Array.replicate (82-vs.size) undef,defers:=[]}:Act)=a0
 have t0:a0.tmps[0]?=some (vs.getD 0 undef):=by
  rw[<-ha0];simp only;rw[Z6l Z0];simp[Z4y,hs1]
 have hr0:RelS G [4,23] a0.tmps cB w.heap.size G w 82 [.v (hpV h)] a0 w r0S:=by
  refine⟨⟨{F:=G,bl:=λ_ _=>none,K:=G},⟨⟨Z4A _,hG,λb hb=>.inl hb,λb hb=>hb,λt i b hb=>(by cases hb),λt i u j b hb=>(by cases hb),hG,λt i b hb=>(by cases hb),λb hb=>.inl hb⟩,λt _ hk=> ?_,λt hh=> ?_⟩,rfl⟩,λp hp=> ?_,.refl _ _,by rw[<-ha0];simp[hs1],by rw[<-ha0]⟩
  ·rw[Zh]at hk⊢;by_cases e:t=0
   ·subst e;exact⟨_,t0,hpV h,by rw[i0];rfl,hv0.mono λb hb=>.inl hb⟩
   ·simp[r0S,SS.at,Z6K e,TK.isNo]at hk
  ·refine absurd ?_ hh;rw[Zh];split<;>exact Y5 _
  ·simp only[r0S,SS.at]at hp;split at hp<;>cases hp
 refine .two (yS Z2 r0c hr0 (N:=λs'=>get s' 1=.m [vu h.base,vi h.cap,vi h.to,.bool h.cycle,vi h.scan,.sl (h.low.map vu),.sl (h.high.map vu),.sl (h.old.map vu),.sl (h.far.map vu),.sl (h.roots.map vu)]/\get s' 2=.m [.sl [],.sl []]/\get s' 3=.v (vi 0)) (X:=λ_ _=>False) (Rt:=λ_=>False) (by simp[r0]) (base 15) _ cs Stop (by simp[base]) λe a1 w1 hp=> ?_);cases e with
 |exit id=>obtain⟨_,_,_,h,_⟩:=hp;exact h.elim
 |ret=>obtain⟨_,_,_,h,_⟩:=hp;exact h.elim
 |normal=>
  obtain⟨s1,S1,hS1,⟨q1,q2,q3⟩,hr1⟩:=hp;cases hS1;have hb1:Below w.heap.size w w1:=hr1.2.2.1.below;refine .two (yS Z2 rXc hr1.base (N:=λs'=>YC h=true/\get s' 1=get s1 1/\get s' 3=get s1 3) (X:=λ_ _=>False) (Rt:=λs'=>YC h=false/\resV s' [(2,.ag 2),(3,.v)]=some (.tup [grV noGr,vi 1])) ?_ (base 15) _ cs Stop (by simp[base]) λe a2 w2 hp=> ?_)
  ·simp[rX,q1];refine Z4 hright Z1 ?_;cases hrr:YC h
   ·simp[Zk,resV,TO,Jl,noGr,grV]
   ·simp[Zk,q1]
  ·cases e with
   |exit id=>obtain⟨_,_,_,h,_⟩:=hp;exact h.elim
   |ret=>
    obtain⟨s2,S2,hS2,⟨e1,e2⟩,hr2⟩:=hp;have hS2:S2=rXR:=by simpa using hS2
    subst hS2;have hb2:Below w.heap.size w w2:=hb1.trans hr2.2.2.1.below;intro todo;refine hK _ w2 rfl ⟨rfl,hr2.2.2.2.2,rfl,_,Try.func15,λd=> ?_⟩;obtain⟨⟨h2,k1,k2⟩,k3,k4,k5,k6⟩:=hr2.sim d
    obtain⟨v,hv,hvr⟩:=WM (c:=cB) (f:=Try.f15) (D:=λb=>(false=false/\G b)\/(w.heap.size<=b/\b< (w2.at d).heap.size)) k1 k3 (λb hb=>by
     obtain h1|h1:=k1.ok.f_or b hb
     ·exact .inl ⟨rfl,h1⟩
     ·exact .inr ⟨h1,k1.ok.f_lt b hb⟩) (λr hr=>⟨Z4D.1 (Z2:(Try.f15.results.toList.all (yV (bes Try.prog) rXR))=true) r hr,λi b hb=>.inr ⟨(k1.ok.b_lt _ _ b hb).1,(k1.ok.b_lt _ _ b hb).2.1⟩⟩) (x:=.tup [grV noGr,vi 1]) (by rw[<-e2];exact Z5J (resV s2) Z2)
    refine⟨v,hv,v,rfl,H4 hb2 d,?_⟩;unfold ofR;rw[if_neg (by rw[e1];simp)];exact hvr
   |normal=>
    obtain⟨s2,S2,hS2,⟨e1,e2,e3⟩,hr2⟩:=hp;cases hS2;have hb2:Below w.heap.size w w2:=hb1.trans hr2.2.2.1.below;have hok:=hk e1;obtain⟨F,b1,b2,T1,T2,x,hF,nF1,nF2,hB1,hB2,h12,hBw,t1,t2,t3,hw1,hw2,hrx⟩:=I5 (h:=h) hr2 (e2.trans q1) (e3.trans q3);have hsz2:a2.tmps.size=82:=hr2.2.2.2.1;have hd2:a2.defers=[]:=hr2.2.2.2.2;have l1:=(Z4z.1 hw1).1;have l2:=(Z4z.1 hw2).1;obtain⟨o,o1,o2,o3,o4⟩:=Z03;obtain⟨o',p1,p2,p3,p4⟩:=Z04;obtain⟨dir,inf,hty,hinf⟩:=H7;refine .two ?_;rw[Z2q];refine .region ?_;rw[yY.1,show List.range 2=[0,1]from rfl];refine Walk.chan (i:=0) o1 (by simp[Region.wanted,o2]) (by simp[base]) o4 hty hinf ?_;rw[o3];generalize hc:w2.heap.size=c;obtain⟨w3,hw3⟩:∃w3,w3=w2.alloc (.chan 0 #[] false 0 0 false):=⟨_,rfl⟩;rw[<-hw3];have ev18:((a2.put (some 18) (.chan (some c))).eval (.tmp 18))=.chan (some c):=Act.eval_tmp _ 18 _ (UL Z0);refine Walk.val (i:=1) (v:=.chan (some c)) p1 (by simp[Region.wanted,p2]) (by simp[base]) (by rw[p4];rfl) (λw' _=>by unfold execOp;simp only[p4,ev18];rfl) (.regEnd ?_);rw[p3];have z3:w3.heap.size=c+1:=by rw[hw3,<-hc];simp
    have hch:w3.heap[c]?=some (.chan 0 #[] false 0 0 false):=by rw[hw3,<-hc];exact Z5c ..
    have ho3:∀b,b<c->w3.heap[b]?=w2.heap[b]? :=λb hb=>by rw[hw3];exact Z4U _ _ _ Z0
    have hb3:Below w.heap.size w w3:=by rw[hw3];exact hb2.alloc Z0 _
    have m1:w3.heap[b1]?=_:=(ho3 b1 Z0).trans hw1;have m2:w3.heap[b2]?=_:=(ho3 b2 Z0).trans hw2;obtain⟨o0,a1',a2',a3',a4'⟩:=Z05;obtain⟨o9,c1',c2',c3',c4'⟩:=Z06;refine .two ?_;rw[Z2r];refine .region ?_;rw[yY.2,show List.range 3=[0,1,2]from rfl];generalize hA3:(a2.put (some 18) (.chan (some c))).put (some 4) (.chan (some c))=a3;have g1:a3.tmps[1]?=some (.pointer (some ⟨b1,0,none⟩)):=by rw[<-hA3,Yl Z0,Yl Z0];exact t1
    have g4:a3.tmps[4]?=some (.chan (some c)):=by rw[<-hA3];exact UL (by rw[Xp];omega)
    have gs:a3.tmps.size=82:=by rw[<-hA3,Xp,Xp];exact hsz2
    have ev1:a3.eval (.tmp 1)=.pointer (some ⟨b1,0,none⟩):=Act.eval_tmp _ 1 _ g1;refine Walk.val (i:=0) (v:=hpA h x) a1' (by simp[Region.wanted,a2']) (by simp[base]) (by rw[a4'];rfl) (λw' he=> ?_) ?_
    ·have hl:=TT (P:=Try.prog) (w:=w') (T:=37) Z2 Z2 (b:=b1) (o:=0) [.int .u64 h.base,.int .i64 h.cap,.int .i64 h.to,.bool h.cycle,.int .i64 h.scan,x 0,x 1,x 2,x 3,x 4] Z2 (λi u hi=>by
      rw[Z5g,Z4Q w' b1 i _ T1 (0,0) (by rw[he];exact m1)];simpa using hi)
     unfold execOp;simp only[a4',ev1];rw[Z54,hl];rfl
    rw[a3'];have ev4:(a3.put (some 19) (hpA h x)).eval (.tmp 4)=.chan (some c):=Act.eval_tmp _ 4 _ (by rw[Yl Z0];exact g4);refine Walk.val (i:=1) (v:=.chan (some c)) c1' (by simp[Region.wanted,c2']) (by simp[base]) (by rw[c4'];rfl) (λw' _=>by unfold execOp;simp only[c4',ev4];rfl) ?_;rw[c3'];generalize hA5:(a3.put (some 19) (hpA h x)).put (some 20) (.chan (some c))=a5;have u1:a5.tmps[1]?=some (.pointer (some ⟨b1,0,none⟩)):=by rw[<-hA5,Yl Z0,Yl Z0];exact g1
    have u4:a5.tmps[4]?=some (.chan (some c)):=by rw[<-hA5,Yl Z0,Yl Z0];exact g4
    have us:a5.tmps.size=82:=by rw[<-hA5,Xp,Xp];exact gs
    have u2:a5.tmps[2]?=some (.pointer (some ⟨b2,0,none⟩)):=by rw[<-hA5,Yl Z0,Yl Z0,<-hA3,Yl Z0,Yl Z0];exact t2
    have u3:a5.tmps[3]?=some (.int .i64 0):=by rw[<-hA5,Yl Z0,Yl Z0,<-hA3,Yl Z0,Yl Z0];exact t3
    have u19:a5.tmps[19]?=some (hpA h x):=by rw[<-hA5,Yl Z0];exact UL Z0
    have u20:a5.tmps[20]?=some (.chan (some c)):=by rw[<-hA5];exact UL (by rw[Xp];omega)
    have ud:a5.defers=[]:=by rw[<-hA5,<-hA3];exact hd2
    let K:Nat->Prop:=λb=>F b/\∃cs e fr,w3.heap[b]?=some (.cells cs e fr)
    have hrK:∀j,j<5->Rd w3 K (.sl ((lsH h j).map vu)) (x j):=λj hj=>by
     have h1:=NY (hrx j hj) (r8 _);refine h1.keep (λb hb=>ho3 b ?_) λb hb=>⟨hb.1,?_⟩
     ·obtain⟨_,cs,e,fr,hb⟩:=hb;have:=(Z4z.1 hb).1;omega
     ·obtain⟨_,cs,e,fr,hb⟩:=hb;exact⟨cs,e,fr,by rw[ho3 b (by have:=(Z4z.1 hb).1;omega)];exact hb⟩
    obtain⟨n0,hn0,hfv,hfo⟩:=zV w3 (a5.tmps++ #[x 0,x 1,x 2,x 3,x 4])
    have hx:∀j,j<5->FixV n0 (x j):=λj hj=>by
     refine hfv _ (Z60.2 (.inr ?_))
     match j,hj with
     |0,_=>simp
     |1,_=>simp
     |2,_=>simp
     |3,_=>simp
     |4,_=>simp
     |j+5,h=>omega
    have hcn:c<n0:=Z0;have nK1:¬K b1:=λh=>nF1 h.1;have nK2:¬K b2:=λh=>nF2 h.1;have hKl:∀b,K b->b<w3.heap.size:=λb ⟨_,_,_,_,hb⟩=>(Z4z.1 hb).1;have nKc:¬K c:=λ⟨_,_,_,_,hb⟩=>by rw[hch]at hb;cases hb
    refine Walk.meet (KA:=K) (KB:=K) (OA0:=λb=>b=b1\/b=b2) (c:=c) (λw=>Nb (by simp[base]) u19 u20 w)
     (F6 (fs:=frs h x 4 0) (fin:=Yk h) hh us ud u1 u2 u3 u4 m1 m2 Z0 hB1 hB2 h12 nK1 nK2 hn0 hcn (λb hb=>hb.2) (λb cs e fr hb=>hfo b cs e fr hb) (λv hv=>hfv v (Z60.2 (.inl hv))) hx hrK (i6 hok hrK) (El h x 4 0) (by
      have:=hok.n;rw[<-jl h x 4 0,Z56]at this;exact this) (by rw[jl];rfl) hok.sm)
     (Cb hh hn0 hcn (λb hb=>hb.2) (λb o ho hb=>by
      obtain⟨_,cs,e,fr,he⟩:=hb;rw[ho]at he;cases he;exact hfo b cs e fr ho) hx hrK hok.ob) hch (λb hb=>by obtain rfl|rfl:=hb<;>omega) hKl hKl (λb hb=>by obtain rfl|rfl:=hb<;>assumption) (λhb=>by obtain hb|hb:=hb<;>omega) nKc nKc ?_
    rintro OA g w' ⟨fr,rfl,hfn,hm,hd,hkd,hres⟩ hsw htape hos hOA hfr;refine⟨fr,cs,rfl,hK fr w' hfn ⟨hm,hd,hkd,_,by rw[hfn];exact Try.func15,λd=> ?_⟩⟩;obtain⟨v,hv,hvr⟩:=hres d;refine⟨v,hv,v,rfl,⟨(Z5J Prod.fst hos).trans hb3.os,htape.trans hb3.tape,(Z5J Prod.snd hos).trans hb3.output,Z4Z hb3.size hsw,λb hb=>(hfr b (by have:=hb3.size;omega) (λhb'=>by obtain rfl|rfl:=hb'<;>omega) Z0).trans (hb3.block b hb)⟩,?_⟩;unfold ofR;rw[if_pos e1];refine hvr.mono λb hb=> ?_;obtain⟨hb,hlt⟩:=hb;obtain hb|hb:=hb
    ·obtain h1|h1:=hF b hb.1
     ·exact .inl ⟨rfl,h1⟩
     ·exact .inr ⟨h1,hlt⟩
    ·exact .inr ⟨hb,hlt⟩
   |_=>exact hp.elim
 |_=>exact hp.elim
#print axioms OL
end Vm
end
section
namespace Vm
open Go Go.Proofs
def WD(l:List Ob):List (Int×Int):=(l.filter λo=>o.gone).map λo=>(o.size,o.ptrs)
def BP{ws:List Int}{shs:List (Int×Int)}{old:Bool}:∀(l:List Ob) (f a tk:Nat) (acc:List Ob),Tiles ws old a l->ws.length<f+a->0<f->shs.drop tk=WD l->Xe ws shs old f a tk acc=(acc++l,0)
 | [],f,a,tk,acc,ht,hf,h0,hs=>by
   obtain⟨f,rfl⟩:∃f',f=f'+1:=⟨f-1,Z0⟩;have:ws.length<=a:=ht;have h2:shs.length<=tk:=List.drop_eq_nil_iff.1 hs;rw[Xe,Z5w this];simp only;rw[if_neg Z0,Z5Z]
 |o::l,f,a,tk,acc,ht,hf,h0,hs=>by
  obtain⟨f,rfl⟩:∃f',f=f'+1:=⟨f-1,Z0⟩;obtain⟨h1,h2,h3⟩:=ht;obtain⟨w,hw,hc⟩:=h2.word;have hsh:=Zc.1 h2.shape;have hfit:=h2.fits;have hsl:=h2.slots;rw[h1]at hw hfit hsl;simp only[Z5f]at hw hsl
  have hrec:∀tk':Nat,shs.drop tk'=WD l->Xe ws shs old f (a+1+o.size.toNat) tk' (acc++[o])=(acc++o::l,0):=λtk' hs'=>by
   rw[BP l f _ tk' _ h3 Z0 Z0 hs'];simp
  have hobj:∃tk',objR shs old a tk w=some (o,tk')/\shs.drop tk'=WD l:=by
   unfold objR;cases hg:o.gone
   ·rw[hg]at hc;simp only[Z4G,Z5h]at hc;rw[if_neg (λh=>hc.1 h.1 h.2),hc.2.1];refine⟨tk,?_,?_⟩
    ·simp only[Z5b];obtain⟨oa,os,op,og,ot⟩:=o;simp only at hg h1 hc⊢;rw[hg,h1,hc.2.2]
    ·rw[hs];simp[WD,hg]
   ·rw[hg]at hc;simp only[Z5b]at hc;rw[if_pos ⟨hc.1,hc.2.1⟩];have hd:shs.drop tk=(o.size,o.ptrs)::WD l:=by rw[hs];simp[WD,hg]
    have hlt:tk<shs.length:=by
     have:=Z5J List.length hd;simp at this;omega
    rw[Z5r hlt]at hd;have e1:=(List.cons.inj hd).1;have e2:=(List.cons.inj hd).2;rw[Z4u hlt,e1];simp only[h2.shape,Z5b];refine⟨tk+1,?_,e2⟩;obtain⟨oa,os,op,og,ot⟩:=o;simp only at hg h1 hc⊢;rw[hg,h1,hc.2.2]
  obtain⟨tk',ho,hs'⟩:=hobj;rw[Xe,hw];simp only;rw[ho];simp only;rw[if_neg Z0,if_neg (by rw[hsl];simp)];exact hrec tk' hs'
def Q8{ws:List Int}{shs:List (Int×Int)}{old:Bool}{l:List Ob}(ht:Tiles ws old 0 l)(hs:shs=WD l):Zs ws shs old=(l,0):=by
 unfold Zs;rw[BP l (ws.length+1) 0 0 [] ht Z0 Z0 (by simpa using hs),Z5G]
def K3(h:Hp)(low l:List Ob):Prop:=∀o∈l,o.gone=true->∃q,atR h 1 low o.target=some q/\q.size=o.size/\q.ptrs=o.ptrs
def Uq{h:Hp}{ws:List Int}{low:List Ob}:∀(l:List Ob) (f i:Nat) (acc:List (Int×Int)),Tiles ws true i l->ws.length<f+i->0<f->K3 h low l->YE h ws low f i acc=some (acc++WD l)
 | [],f,i,acc,ht,hf,h0,hg=>by
   obtain⟨f,rfl⟩:∃f',f=f'+1:=⟨f-1,Z0⟩;have:ws.length<=i:=ht;rw[YE,Z5w this];simp[WD]
 |o::l,f,i,acc,ht,hf,h0,hg=>by
  obtain⟨f,rfl⟩:∃f',f=f'+1:=⟨f-1,Z0⟩;obtain⟨h1,h2,h3⟩:=ht;obtain⟨w,hw,hc⟩:=h2.word;have hsh:=Zc.1 h2.shape;have hfit:=h2.fits;rw[h1]at hw hfit;simp only[Z5f]at hw;have hg':K3 h low l:=λq hq=>hg q (Z53 _ hq);rw[YE,hw];simp only;cases hgo:o.gone
  ·rw[hgo]at hc;simp only[Z4G,Z5h,true_implies]at hc;rw[if_neg hc.1,hc.2.1];simp only[Z5b];rw[Uq l f _ acc h3 Z0 Z0 hg'];simp[WD,hgo]
  ·rw[hgo]at hc;simp only[Z5b,true_and]at hc;rw[if_pos hc.1];obtain⟨q,hq,e1,e2⟩:=hg o (.head _) hgo;rw[<-hc.2,hq];simp only;rw[e1,e2,Uq l f _ _ h3 Z0 Z0 hg'];simp[WD,hgo]
def Bs{h:Hp}{p:Pts}(h1:Tiles h.low false 0 p.low)(h2:Tiles h.high false 0 p.high)(h3:Tiles h.old true 0 p.old)(h4:Tiles h.far true 0 p.far)(g3:K3 h p.low p.old)(g4:K3 h p.low p.far):Yc h=some p:=by
 have ng:∀ {ws:List Int} {a:Nat} {l:List Ob},Tiles ws false a l->WD l=[]:=λ{ws a l} ht=>by
  unfold WD;rw[List.map_eq_nil_iff,List.filter_eq_nil_iff];intro o ho hg;obtain⟨w,_,hc⟩:=(ht.stands o ho).1.word;rw[if_pos hg]at hc;cases hc.1
 unfold Yc;rw[Q8 h1 (ng h1).symm,Q8 h2 (ng h2).symm];unfold YS;simp only[ne_eq,not_true_eq_false,or_self,Z5h];rw[Uq p.old _ 0 [] h3 Z0 Z0 g3,Uq p.far _ 0 [] h4 Z0 Z0 g4];simp only[Z5G,Z4W];rw[Q8 h3 rfl,Q8 h4 rfl];simp
def BD{h:Hp}{p:Pts}(hn:numR h=true)(hp:Yc h=some p)(hr:TP h p=true):YC h=true:=by
 unfold YC;rw[hn,hp];simpa using hr
def M1{h:Hp}{k:Int}{l:List Ob}{o:Ob}(ho:o∈l)(hd:∀q∈l,ZM h k q.at_=ZM h k o.at_->q=o):atR h k l (ZM h k o.at_)=some o:=by
 unfold atR
 induction l with
 |nil=>simp at ho
 |cons x l ih=>
  rw[Z7I];by_cases hx:ZM h k x.at_=ZM h k o.at_
  ·rw[hd x (.head _) hx];simp
  ·have:(ZM h k x.at_==ZM h k o.at_)=false:=by simpa using hx
   rw[this];obtain rfl|ho:=Z4H.1 ho
   ·exact absurd rfl hx
   ·exact ih ho λq hq=>hd q (Z53 _ hq)
def Sc{h:Hp}{k:Int}{l:List Ob}{a:Int}:(atR h k l a).isSome=true↔ ∃o∈l,ZM h k o.at_=a:=by
 unfold atR;rw[List.find?_isSome];simp
section
structure Tld (h:Hp) (p:Pts):Prop where
 lay:Zi (layH h)=true
 tiles:∀k:Int,1<=k/\k<=4->Tiles (Zd h k) (decide (2<k)) 0 (p.at k)
def Gos(h:Hp)(p:Pts)(w one two:Int):Prop:=w=0\/∃k o,(k=one\/k=two)/\o∈p.at k/\w=refR (layH h) k o.at_
def Qd(h:Hp)(p:Pts)(k:Int)(i:Nat)(w:Int):Prop:=if 2<k then Gos h p w 3 4 else if k=1/\h.scan<=i then Gos h p w 1 2\/Gos h p w 3 4 else Gos h p w 1 2
section
variable {h:Hp}{p:Pts}
def Tld.ob(t:Tld h p){k:Int}(hk:1<=k/\k<=4){o:Ob}(ho:o∈p.at k):∃a n m:Nat,o.at_=a/\o.size=n/\o.ptrs=m/\a+(n+1)<=(Zd h k).length/\n<=255/\m<=n:=by
 have hs:=((t.tiles k hk).stands o ho).1;have h1:=Zc.1 hs.shape;obtain⟨a,ha⟩:=Z4P hs.nat;obtain⟨n,hn⟩:=Z4P h1.1;obtain⟨m,hm⟩:=Z4P h1.2.2.1;have:=hs.fits
 grind
def Tld.start(t:Tld h p){k:Int}(hk:1<=k/\k<=4){o:Ob}(ho:o∈p.at k):ZM h k o.at_=fstL (layH h) k+o.at_:=by
 obtain⟨a,n,m,ha,_,_,hl,_⟩:=t.ob hk ho;unfold ZM;rw[Sa t.lay hk (by grind [WO])]
def Tld.same_at(t:Tld h p){k:Int}(hk:1<=k/\k<=4){o q:Ob}(ho:o∈p.at k)(hq:q∈p.at k)(e:q.at_=o.at_):q=o:=by
 rcases(t.tiles k hk).apart q hq o ho with h1|h1|h1
 ·exact h1
 ·have:=Zc.1 ((t.tiles k hk).stands q hq).1.shape;omega
 ·have:=Zc.1 ((t.tiles k hk).stands o ho).1.shape;omega
def Tld.find(t:Tld h p){k:Int}(hk:1<=k/\k<=4){o:Ob}(ho:o∈p.at k):atR h k (p.at k) (fstL (layH h) k+o.at_)=some o:=by
 rw[<-t.start hk ho];refine M1 ho λq hq e=>t.same_at hk ho hq ?_;rw[t.start hk ho,t.start hk hq]at e;omega
theorem Tld.inj(t:Tld h p){k j:Int}(hk:1<=k/\k<=4)(hj:1<=j/\j<=4){o q:Ob}(ho:o∈p.at k)(hq:q∈p.at j)(e:refR (layH h) k o.at_=refR (layH h) j q.at_):k=j/\o=q:=by
 obtain⟨a,n,m,ha,_,_,hl,_⟩:=t.ob hk ho;obtain⟨b,n',m',hb,_,_,hl',_⟩:=t.ob hj hq;obtain⟨e1,e2⟩:=Ip t.lay hk hj (by grind [WO]) (by grind [WO]) e;subst e1;exact⟨rfl,t.same_at hk hq ho e2⟩
def Tld.adr(t:Tld h p){k:Int}(hk:1<=k/\k<=4){o:Ob}(ho:o∈p.at k):adr (refR (layH h) k o.at_)=(fstL (layH h) k+o.at_,0):=by
 obtain⟨a,n,m,ha,_⟩:=t.ob hk ho;exact Sb t.lay Z0
def Tld.at_iff(t:Tld h p){k:Int}(hk:1<=k/\k<=4){w:Int}(h0:(Vm.adr w).2=0):(atR h k (p.at k) (Vm.adr w).1).isSome=true↔ ∃o∈p.at k,w=refR (layH h) k o.at_:=by
 rw[Sc];constructor
 ·rintro⟨o,ho,e⟩;rw[t.start hk ho]at e;exact⟨o,ho,On h0 e.symm⟩
 ·rintro⟨o,ho,rfl⟩;exact⟨o,ho,by rw[t.adr hk ho,t.start hk ho]⟩
def Tld.goes_iff(t:Tld h p){i j:Int}(hi:1<=i/\i<=4)(hj:1<=j/\j<=4){w:Int}:Xr h p w i j=true↔Gos h p w i j:=by
 unfold Xr Gos;by_cases h0:w=0
 ·simp[h0]
 by_cases h1:(Vm.adr w).2=0
 ·simp only[h0,h1,Z7L,Z8F,Z6X,Z85,Z4L,false_or,t.at_iff hi h1,t.at_iff hj h1];simp
 ·simp only[h0,h1,Z8F,Bool.false_and,Bool.or_self,Z4G,false_or,false_iff];rintro⟨k,o,hk,ho,rfl⟩;have hk4:1<=k/\k<=4:=by obtain rfl|rfl:=hk<;>assumption
  exact h1 (by rw[t.adr hk4 ho])
def Ro:∀ {l:List Int} {ptrs:Int} {i:Nat},ZO l true ptrs i=true->∀w∈l,w=0
 | [],_,_,_,w,hw=>by simp at hw
 |y::l,ptrs,i,hs,w,hw=>by
  simp only[ZO,Z4x]at hs;obtain rfl|hw:=Z4H.1 hw
  ·have h1:=hs.1;simp at h1;exact h1.1
  ·exact Ro hs.2 w hw
def Tld.slot(t:Tld h p){k:Int}(hk:1<=k/\k<=4){o:Ob}(ho:o∈p.at k){j:Nat}(hj:(j:Int)<o.size):∃w,(Zd h k)[o.at_.toNat+1+j]?=some w/\(o.gone=true->w=0):=by
 obtain⟨a,n,m,ha,hn,hm,hl,_⟩:=t.ob hk ho;have hlt:a+1+j< (Zd h k).length:=Z0;refine⟨(Zd h k)[a+1+j],Z3M,λhg=> ?_⟩;have hs:=((t.tiles k hk).stands o ho).1.slots;rw[hg]at hs;refine Ro hs _ ?_;rw[ha,hn,Z5f,Z5f];refine Z4B (i:=j) ?_;simp_all
end
structure Body (h:Hp) (p:Pts):Prop extends Tld h p where
 gone:∀k:Int,3<=k/\k<=4->∀o∈p.at k,o.gone=true->∃q∈p.low,o.target=fstL (layH h) 1+q.at_/\q.size=o.size/\q.ptrs=o.ptrs
 ptr:∀k:Int,1<=k/\k<=4->∀o∈p.at k,o.gone=false->∀j:Nat,(j:Int)<o.ptrs->∀w,(Zd h k)[o.at_.toNat+1+j]?=some w->Qd h p k (o.at_.toNat+1+j) w
 room:(h.low.length:Int)+h.high.length+IQ p<=h.cap
structure Rt (h:Hp) (p:Pts):Prop extends Body h p where
 nroots:h.roots.length<=16
 scan0:0<=h.scan
 scanL:h.scan<=h.low.length
 cyc:h.cycle=true->h.scan<h.low.length
 rest:h.cycle=false->h.scan=h.low.length/\h.old=[]/\h.far=[]
 once:h.cycle=true->∀o∈p.low,Gs p (fstL (layH h) 1+o.at_)=1
 roots:∀w∈h.roots,Gos h p w 1 2
section
variable {h:Hp}{p:Pts}
def zt(t:Tld h p){k:Int}{i:Nat}{w:Int}(hw:(Zd h k)[i]?=some w):SK h p k i=true↔Qd h p k i w:=by
 unfold SK Qd;simp only[hw,Z4W];split
 ·exact t.goes_iff Z0 Z0
 split
 ·rw[Z4L,t.goes_iff Z0 Z0,t.goes_iff Z0 Z0]
 ·exact t.goes_iff Z0 Z0
theorem BY(k:Int)(i:Nat):Qd h p k i 0:=by
 unfold Qd;split
 ·exact .inl rfl
 split
 ·exact .inl (.inl rfl)
 ·exact .inl rfl
def Bw(t:Tld h p){k:Int}(hk:1<=k/\k<=4):WK h p k=true↔ ∀o∈p.at k,o.gone=false->∀j:Nat,(j:Int)<o.ptrs->∀w,(Zd h k)[o.at_.toNat+1+j]?=some w->Qd h p k (o.at_.toNat+1+j) w:=by
 unfold WK Bl;simp only[Z4D,Z6x];constructor
 ·intro hp o ho _ j hj w hw;exact(zt t hw).1 (hp o ho j Z0)
 ·intro hp o ho j hj;obtain⟨a,n,m,ha,hn,hm,hl,_⟩:=t.ob hk ho;obtain⟨w,hw,hz⟩:=t.slot hk ho (j:=j) Z0;refine(zt t hw).2 ?_
  grind [BY]
def RightH.tld(r:RightH h p):Tld h p:=⟨r.lay,λk hk=>r.tiles hk⟩
def RightH.rt(r:RightH h p):Rt h p:=by
 have t:=r.tld;have hn:=r.num;have ho:=r.ok;unfold numR at hn;unfold TP at ho;simp only[Z4x,Z4N]at hn ho;obtain⟨⟨⟨⟨n1,n2⟩,n3⟩,n4⟩,n5⟩:=hn;obtain⟨⟨⟨⟨⟨⟨o1,o2⟩,o3⟩,o4⟩,o5⟩,o6⟩,o7⟩:=ho
 have hptr:∀k:Int,1<=k/\k<=4->WK h p k=true:=λk hk=>by
  have:k=1\/k=2\/k=3\/k=4:=Z0
  grind
 refine⟨⟨t,λk hk o ho hg=> ?_,λk hk=>(Bw t hk).1 (hptr k hk),o7⟩,n2,n3,n4,λhc=> ?_,λhc=> ?_,λhc o ho=> ?_,λw hw=> ?_⟩
 ·obtain⟨q,hq,e,e1,e2⟩:=r.gone_low hk ho hg;exact⟨q,hq,by rw[<-e,t.start (k:=1) Z0 hq],e1,e2⟩
 ·simp_all
 ·simp_all
 ·rw[hc]at o1;simp only[Z7d,Z6X,Z4D]at o1;have:=o1 o ho;unfold tgOk at this;rw[t.start (k:=1) Z0 ho]at this;simp_all
 ·exact(t.goes_iff Z0 Z0).1 (Z4D.1 o2 w hw)
def Rt.parts(r:Rt h p):Yc h=some p:=by
 have g:∀k:Int,3<=k/\k<=4->K3 h p.low (p.at k):=λk hk o ho hg=>by
  obtain⟨q,hq,e,e1,e2⟩:=r.gone k hk o ho hg;exact⟨q,by rw[e];exact r.toTld.find (k:=1) Z0 hq,e1,e2⟩
 exact Bs (r.tiles 1 Z0) (r.tiles 2 Z0) (r.tiles 3 Z0) (r.tiles 4 Z0) (g 3 Z0) (g 4 Z0)
theorem Rt.right(r:Rt h p):YC h=true:=by
 have t:=r.toTld;refine BD ?_ r.parts ?_
 ·unfold numR;simp only[Z4x,Z4N];refine⟨⟨⟨⟨r.lay,r.nroots⟩,r.scan0⟩,r.scanL⟩,?_⟩;cases hc:h.cycle
  ·obtain⟨e1,e2,e3⟩:=r.rest hc;simp_all
  ·simp[r.cyc hc]
 ·unfold TP;simp only[Z4x,Z4N];have hp:=λk hk=>(Bw t hk).2 (r.ptr k hk);refine⟨⟨⟨⟨⟨⟨?_,?_⟩,hp 1 Z0⟩,hp 2 Z0⟩,hp 3 Z0⟩,hp 4 Z0⟩,r.room⟩
  ·cases hc:h.cycle
   ·rfl
   ·simp only[Z7d,Z6X,Z4D];intro o ho;unfold tgOk;rw[t.start (k:=1) Z0 ho,Z4N];exact r.once hc o ho
  ·rw[Z4D];exactλw hw=>(t.goes_iff Z0 Z0).2 (r.roots w hw)
def qt:YC h=true↔ ∃p,Rt h p:=
 ⟨λhr=>by obtain⟨p,r⟩:=FW hr;exact⟨p,r.rt⟩,λ⟨p,r⟩=>r.right⟩
def Rt.objs(r:Rt h p){k:Int}(hk:1<=k/\k<=4):Uz h k=(p.at k,0):=by
 unfold Uz;rw[if_pos ⟨r.right,hk⟩,r.parts];rfl
end
end
section
def szL(l:List Ob):Nat:=(l.map λo=>1+o.size.toNat).sum
def Tiles.sum{ws:List Int}{old:Bool}:∀ {a:Nat} {l:List Ob},Tiles ws old a l->a<=ws.length->a+szL l=ws.length
 |a,[],h,ha=>by have:ws.length<=a:=h;simp[szL];omega
 |a,o::l,h,ha=>by
  have hs:=Zc.1 h.2.1.shape;have hf:=h.2.1.fits;rw[h.1]at hf;have:=Tiles.sum h.2.2 Z0;simp[szL]at this⊢;omega
section
variable {h:Hp}{p:Pts}
def Tiles.pairwise{ws:List Int}{old:Bool}:∀ {a:Nat} {l:List Ob},Tiles ws old a l->l.Pairwise λx y=>x.at_<y.at_
 |_,[],_=>.nil
 |a,o::l,h=>by
  have hs:=Zc.1 h.2.1.shape;refine .cons (λy hy=> ?_) (Tiles.pairwise h.2.2);have:=(Tiles.stands h.2.2 y hy).2;rw[h.1];omega
end
end
section
section
variable {h:Hp}{p:Pts}
def Vd(h:Hp){q:Nat}(hq:q<4):Zd h ((q:Int)+1)=lsH h q:=by
 have:q=0\/q=1\/q=2\/q=3:=Z0;obtain rfl|rfl|rfl|rfl:=this<;>rfl
def Rt.obQ(r:Rt h p){q:Nat}(hq:q<4):obP h q=p.at ((q:Int)+1):=by
 unfold Vm.obP;rw[r.objs Z0]
def Sm{f:Fo}:∀ {n q:Nat},f∈fos h n q->∃k o,q<=k/\k<q+n/\o∈obP h k/\f=foP h k o
 |0,q,hf=>by simp[fos]at hf
 |n+1,q,hf=>by
  simp only[fos,Z4R,Z4I]at hf;obtain⟨o,ho,rfl⟩|hf:=hf
  ·exact⟨q,o,Z0,Z0,ho,rfl⟩
  ·obtain⟨k,o,h1,h2,h3⟩:=Sm hf;exact⟨k,o,Z0,Z0,h3⟩
def jP{k:Nat}{o:Ob}(ho:o∈obP h k):∀ {n q:Nat},q<=k->k<q+n->foP h k o∈fos h n q
 |0,q,h1,h2=>Z0
 |n+1,q,h1,h2=>by
  simp only[fos,Z4R,Z4I];by_cases e:k=q
  ·subst e;exact .inl ⟨o,ho,rfl⟩
  ·exact .inr (jP ho Z0 Z0)
def Z0l(s:Vw)(f:Fo):(s.put f).ns=s.ns++if f.ob.gone then []else [f]:=by
 unfold Vw.put;split<;>simp
def Ei:∀(l:List Fo) (s:Vw),(l.foldl Vw.put s).ns=s.ns++l.filter λf=> !f.ob.gone
 | [],s=>Z1
 |f::l,s=>by
  rw[Z6i,Ei l,Z0l];cases hg:f.ob.gone<;>simp[hg]
def Az(h:Hp):(Yk h).ns=(fos h 4 0).filter λf=> !f.ob.gone:=by
 unfold Yk;rw[Ei];rfl
def yP(r:Rt h p){q:Nat}(hq:q<4):(obP h q).length<=(lsH h q).length:=by
 have t:=r.tiles ((q:Int)+1) Z0;have:=t.sum (Z5H _);rw[Vd h hq,<-r.obQ hq]at this
 have hle:(obP h q).length<=szL (obP h q):=by
  generalize obP h q=l
  induction l with
  |nil=>simp
  |cons o l ih=>simp only[szL,Z4T,List.sum_cons,Z5B]at ih⊢;omega
 omega
def Rt.len4(r:Rt h p){q:Nat}(hq:q<4):(lsH h q).length<=4096:=by
 obtain⟨h1,h2,_,_,_,⟨_,_,h5,h6⟩,⟨_,_,h7,h8⟩⟩:=Yv.1 r.lay;simp only[layH]at*;have:q=0\/q=1\/q=2\/q=3:=Z0;obtain rfl|rfl|rfl|rfl:=this
 ·show h.low.length<=4096;omega
 ·show h.high.length<=4096;omega
 ·show h.old.length<=4096;omega
 ·show h.far.length<=4096;omega
def Rt.ob4(r:Rt h p){q:Nat}(hq:q<4){o:Ob}(ho:o∈obP h q):∃a n m:Nat,o.at_=a/\o.size=n/\o.ptrs=m/\a+(n+1)<=(lsH h q).length/\n<=255/\m<=n:=by
 rw[r.obQ hq]at ho;have:=r.toTld.ob Z0 ho;rwa[Vd h hq]at this
def lsW(hh:h.ok){q:Nat}(hq:q<4):∀w∈lsH h q,U64 w:=by
 have:q=0\/q=1\/q=2\/q=3:=Z0;obtain rfl|rfl|rfl|rfl:=this
 ·exact hh.lowW
 ·exact hh.highW
 ·exact hh.oldW
 ·exact hh.farW
def Eg(r:Rt h p){q:Nat}(hq:q<4){o:Ob}(ho:o∈obP h q):(foP h q o).sl.length=o.size.toNat:=by
 obtain⟨a,n,m,h1,h2,h3,h4,_⟩:=r.ob4 hq ho;simp only[foP,Z5Q,Z6M];omega
def Rt.ofOk(r:Rt h p)(hh:h.ok):OfOk h:=by
 have hl:(fos h 4 0).length<=16384:=by
  have h0:=yP r (q:=0) Z0;have h1:=yP r (q:=1) Z0;have h2:=yP r (q:=2) Z0;have h3:=yP r (q:=3) Z0;have k0:=r.len4 (q:=0) Z0;have k1:=r.len4 (q:=1) Z0;have k2:=r.len4 (q:=2) Z0;have k3:=r.len4 (q:=3) Z0;simp only[fos,Z5N,Z56,Z6j,Z5g,Nat.reduceAdd];omega
 refine⟨λq hq=>⟨by have:=yP r hq;have:=r.len4 hq;omega,λo ho=> ?_⟩,Z0,⟨?_,λf hf=> ?_,by have:=r.nroots;omega,hh.rootsW⟩⟩
 ·obtain⟨a,n,m,h1,h2,h3,h4,_⟩:=r.ob4 hq ho;omega
 ·rw[Az];have:=Z8r (λf:Fo=> !f.ob.gone) (fos h 4 0);omega
 ·rw[Az]at hf;obtain⟨k,o,_,hk,ho,rfl⟩:=Sm (Z7h.1 hf).1;obtain⟨a,n,m,h1,h2,h3,h4,h5,h6⟩:=r.ob4 Z0 ho;have e:=Eg r Z0 ho;refine⟨by show 0<=o.ptrs;omega,by show o.ptrs<=_;rw[e];omega,by rw[e];omega,λw hw=>lsW hh (q:=k) Z0 w ?_⟩;exact Z64 (Z5o hw)
def ofOk(hh:h.ok)(hr:YC h=true):OfOk h:=by
 obtain⟨p,r⟩:=qt.1 hr;exact r.ofOk hh
end
def OM{h:Hp}(hh:h.ok):VC (bes Try.prog) 15 false [hpV h] (ofR h):=OL hh (ofOk hh)
end
section
structure VwI (d:List Fo) (s:Vw):Prop where
 ns:s.ns=d.filter λf=> !f.ob.gone
 n1:∀a j,getA s.nm a=some j->∃i:Nat,j=i/\∃f,s.ns[i]?=some f/\f.ad=a
 n2:∀f∈s.ns,(getA s.nm f.ad).isSome=true
 t1:∀a t,getA s.tm a=some t->∃f∈d,f.ob.gone=true/\f.ad=a/\f.ob.target=t
 t2:∀f∈d,f.ob.gone=true->(getA s.tm f.ad).isSome=true
def Uc{α:Type}{l:List (Int×α)}{k j:Int}{x:α}(h:k=j\/(getA l j).isSome=true):(getA (putA l k x) j).isSome=true:=by
 rw[Ua];split
 ·rfl
 ·rename_i hn;obtain h|h:=h
  ·exact absurd h hn
  ·exact h
theorem VwI.put{d:List Fo}{s:Vw}{f:Fo}(i:VwI d s):VwI (d++[f]) (s.put f):=by
 cases hg:f.ob.gone
 ·have e:s.put f= {s with ns:=s.ns++[f],nm:=putA s.nm f.ad s.ns.length}:=by simp[Vw.put,hg]
  rw[e];refine⟨by simp[i.ns,hg],λa j hj=> ?_,λx hx=> ?_,λa t ht=> ?_,λx hx hxg=> ?_⟩
  ·simp only[Ua]at hj;split at hj
   ·rename_i ha;exact⟨s.ns.length,by simpa using hj.symm,f,Z1,ha⟩
   ·obtain⟨m,e1,g,e2,e3⟩:=i.n1 a j hj;exact⟨m,e1,g,by simp only[Z57 (Z4v.1 e2).1,e2],e3⟩
  ·obtain hx|hx:=Z4R.1 hx
   ·exact Uc (.inr (i.n2 x hx))
   ·rw[Z5x.1 hx];exact Uc (.inl rfl)
  ·obtain⟨g,h1,h2⟩:=i.t1 a t ht;exact⟨g,by simp[h1],h2⟩
  ·obtain hx|hx:=Z4R.1 hx
   ·exact i.t2 x hx hxg
   ·rw[Z5x.1 hx,hg]at hxg;exact absurd hxg Z1
 ·have e:s.put f= {s with tm:=putA s.tm f.ad f.ob.target}:=by simp[Vw.put,hg]
  rw[e];refine⟨by simp[i.ns,hg],i.n1,i.n2,λa t ht=> ?_,λx hx hxg=> ?_⟩
  ·simp only[Ua]at ht;split at ht
   ·rename_i ha;exact⟨f,Z1,hg,ha,by simpa using ht⟩
   ·obtain⟨g,h1,h2⟩:=i.t1 a t ht;exact⟨g,by simp[h1],h2⟩
  ·obtain hx|hx:=Z4R.1 hx
   ·exact Uc (.inr (i.t2 x hx hxg))
   ·rw[Z5x.1 hx];exact Uc (.inl rfl)
def VwI.fold:∀ {l d:List Fo} {s:Vw},VwI d s->VwI (d++l) (l.foldl Vw.put s)
 | [],d,s,i=>by simpa using i
 |f::l,d,s,i=>by
  have:=VwI.fold (l:=l) (i.put (f:=f));rwa[Z5A]at this
def Dm(h:Hp):VwI (fos h 4 0) (Yk h):=by
 have:VwI [] ⟨[],[],[]⟩:=⟨rfl,by simp[getA],Z1,by simp[getA],Z1⟩;exact this.fold (l:=fos h 4 0)
section
variable {h:Hp}{p:Pts}
def QC(r:Rt h p){q:Nat}(hq:q<4){o:Ob}(ho:o∈obP h q):(foP h q o).ad=fstL (layH h) ((q:Int)+1)+o.at_:=by
 obtain⟨a,n,m,h1,h2,h3,h4,_⟩:=r.ob4 hq ho;show(ZG (layH h) ((q:Int)+1) o.at_).1=_;rw[Sa r.lay Z0 (by rw[WO Z0,Vd h hq];omega)]
def Eh(r:Rt h p){f g:Fo}(hf:f∈fos h 4 0)(hg:g∈fos h 4 0)(e:f.ad=g.ad):f=g:=by
 obtain⟨k,o,_,hk,ho,rfl⟩:=Sm hf;obtain⟨j,q,_,hj,hq,rfl⟩:=Sm hg;rw[QC r Z0 ho,QC r Z0 hq]at e;have ho':=ho;have hq':=hq;rw[r.obQ Z0]at ho' hq';obtain⟨e1,e2⟩:=r.toTld.inj Z0 Z0 ho' hq' (by unfold refR;omega);have:k=j:=Z0;subst this;rw[e2]
def Fb{f:Fo}:f∈(Yk h).ns↔f∈fos h 4 0/\f.ob.gone=false:=by
 rw[(Dm h).ns];simp
def Rt.to_nm(r:Rt h p){f:Fo}(hf:f∈fos h 4 0)(hg:f.ob.gone=false):∃i:Nat,getA (Yk h).nm f.ad=some (i:Int)/\(Yk h).ns[i]?=some f:=by
 obtain⟨j,hj⟩:=Z5y.1 ((Dm h).n2 f (Fb.2 ⟨hf,hg⟩));obtain⟨i,rfl,g,h1,h2⟩:=(Dm h).n1 _ _ hj;have:=Eh r (Fb.1 (Z4B h1)).1 hf h2;subst this;exact⟨i,hj,h1⟩
def Rt.to_live(r:Rt h p){f:Fo}(hf:f∈fos h 4 0)(hg:f.ob.gone=false){w:Int}(hw:w≠0)(ha:(adr w).1=f.ad):∃i:Nat,(Yk h).toA w=i/\(Yk h).ns[i]?=some f:=by
 obtain⟨i,h1,h2⟩:=r.to_nm hf hg;refine⟨i,?_,h2⟩
 have:getA (Yk h).tm f.ad=none:=by
  cases ht:getA (Yk h).tm f.ad with
  |none=>rfl
  |some t=>
   obtain⟨g,k1,k2,k3,_⟩:=(Dm h).t1 _ _ ht;rw[Eh r k1 hf k3,hg]at k2;exact absurd k2 Z1
 unfold Vw.toA;rw[if_neg hw,ha,this,Option.getD_none,h1,Z4W]
def Rt.to_gone(r:Rt h p){f g:Fo}(hf:f∈fos h 4 0)(hg:f.ob.gone=true)(gf:g∈fos h 4 0)(gg:g.ob.gone=false)(ht:f.ob.target=g.ad){w:Int}(hw:w≠0)(ha:(adr w).1=f.ad):∃i:Nat,(Yk h).toA w=i/\(Yk h).ns[i]?=some g:=by
 obtain⟨i,h1,h2⟩:=r.to_nm gf gg;refine⟨i,?_,h2⟩;obtain⟨t,e⟩:=Z5y.1 ((Dm h).t2 f hf hg);obtain⟨x,k1,k2,k3,k4⟩:=(Dm h).t1 _ _ e;rw[Eh r k1 hf k3,ht]at k4;unfold Vw.toA;rw[if_neg hw,ha,e,Z4W,<-k4,h1,Z4W]
def Rt.live12(r:Rt h p){q:Nat}(hq:q<2){o:Ob}(ho:o∈obP h q):o.gone=false:=by
 rw[r.obQ Z0]at ho;obtain⟨w,_,hw⟩:=((r.tiles ((q:Int)+1) Z0).stands o ho).1.word;cases hg:o.gone
 ·rfl
 ·rw[hg,if_pos rfl]at hw;have:=hw.1;simp at this;omega
def Rt.gos(r:Rt h p){w i j:Int}(hi:1<=i/\i<=4)(hj:1<=j/\j<=4)(hw:Gos h p w i j)(h0:w≠0):∃(q:Nat) (o:Ob),q<4/\(((q:Int)+1=i)\/((q:Int)+1=j))/\o∈obP h q/\w=2*(foP h q o).ad+1/\(adr w).1=(foP h q o).ad:=by
 obtain rfl|⟨k,o,hk,ho,rfl⟩:=hw
 ·exact absurd rfl h0
 obtain⟨q,rfl,hq⟩:∃q:Nat,k=(q:Int)+1/\q<4:=⟨(k-1).toNat,Z0,Z0⟩;have ho':o∈obP h q:=by rw[r.obQ hq];exact ho
 refine⟨q,o,hq,hk,ho',?_,?_⟩
 ·rw[QC r hq ho'];rfl
 ·rw[r.toTld.adr Z0 ho,QC r hq ho']
def Rt.to_any(r:Rt h p){w i j:Int}(hi:1<=i/\i<=4)(hj:1<=j/\j<=4)(hw:Gos h p w i j)(h0:w≠0):∃(n:Nat),(Yk h).toA w=n/\n< (Yk h).ns.length:=by
 obtain⟨q,o,hq,hk,ho,_,ha⟩:=r.gos hi hj hw h0;have hf:foP h q o∈fos h 4 0:=jP ho Z0 Z0;cases hg:o.gone
 ·obtain⟨n,h1,h2⟩:=r.to_live hf hg h0 ha;exact⟨n,h1,(Z4v.1 h2).1⟩
 ·have h3:2<=q:=by
   by_cases hl:q<2
   ·rw[r.live12 hl ho]at hg;exact absurd hg Z1
   ·omega
  have ho':=ho;rw[r.obQ hq]at ho';obtain⟨t,ht,h4,_⟩:=r.gone ((q:Int)+1) Z0 o ho' hg;have ht':t∈obP h 0:=by rw[r.obQ Z0];exact ht
  obtain⟨n,h1,h2⟩:=r.to_gone hf hg (g:=foP h 0 t) (jP ht' Z0 Z0) (r.live12 Z0 ht') (by rw[QC r Z0 ht'];exact h4) h0 ha;exact⟨n,h1,(Z4v.1 h2).1⟩
def Rt.to_in(r:Rt h p){w i j:Int}(hi:1<=i/\i<=4)(hj:1<=j/\j<=4)(hw:Gos h p w i j):inR (Yk h).ns.length ((Yk h).toA w)=true:=by
 by_cases h0:w=0
 ·subst h0;simp[Vw.toA,inR];omega
 ·obtain⟨n,h1,h2⟩:=r.to_any hi hj hw h0;rw[h1];simp[inR];omega
def NX{k:Int}{i:Nat}{w:Int}(hw:Qd h p k i w):∃a b:Int,(1<=a/\a<=4)/\(1<=b/\b<=4)/\Gos h p w a b:=by
 unfold Qd at hw;split at hw
 ·exact⟨3,4,Z0,Z0,hw⟩
 ·split at hw
  ·obtain hw|hw:=hw
   ·exact⟨1,2,Z0,Z0,hw⟩
   ·exact⟨3,4,Z0,Z0,hw⟩
  ·exact⟨1,2,Z0,Z0,hw⟩
def Rt.view_right(r:Rt h p){roots:List Int}(hl:roots.length<=16)(hr:∀w∈roots,Gos h p w 1 2):Vm.right ((Yk h).gr roots)=true:=by
 simp only[Vm.right,Z4x,Z4D,Z4N,Vw.gr,Z56,Z4I];refine⟨⟨hl,?_⟩,?_⟩
 ·rintro _ ⟨f,hf,rfl⟩;obtain⟨hf1,hg⟩:=Fb.1 hf;obtain⟨q,o,_,hq,ho,rfl⟩:=Sm hf1;obtain⟨a,n,m,h1,h2,h3,h4,h5,h6⟩:=r.ob4 Z0 ho;have e:=Eg r Z0 ho;simp only[TF,ndF,Z4x,Z4D,Z4N,Z56,Z5Q,Z6M,Z4I];refine⟨Z0,?_⟩;rintro _ ⟨w,hw,rfl⟩;obtain⟨j,hj⟩:=Z4V hw;have hjl:=(Z4v.1 hj).1;rw[Z5Q]at hjl;have hop:(foP h q o).ob.ptrs=o.ptrs:=rfl;rw[hop]at hj hjl;rw[Z6B Z0]at hj;have ho':=ho;rw[r.obQ Z0]at ho'
  have hw':(Zd h ((q:Int)+1))[o.at_.toNat+1+j]?=some w:=by
   rw[Vd h Z0];simp only[foP]at hj;rw[Z6B Z0,Z5d]at hj;rw[<-hj];congr 1;omega
  obtain⟨i,k,hi,hk,hG⟩:=NX (r.ptr ((q:Int)+1) Z0 o ho' hg j Z0 w hw');exact r.to_in hi hk hG
 ·rintro _ ⟨w,hw,rfl⟩;exact r.to_in Z0 Z0 (hr w hw)
end
end
end Vm
end
section
namespace Vm
open Go
open Go.Proofs
def p4:Fn:=⟨16,[0,1,2,3,4,5,6,7,55,8,60,86,9,89,114,10],
pQ [pR [(1,pS 0 7),pV 2 pF],pC [pK 16 13 []] [pV 3 (.s 16)],pC [pK 17 16 [.mm 1 0 7]] [(4,pS 17 10)],pC [pK 18 20 [.mm 4 0 10]] [pV 5 (.s 18)],pC [pK 19 15 [.mm 4 0 10]] [(6,pM (.sz (.ext (.s 19) 0) 2) 2),pV 7 (.ext (.s 19) 1)],pQ [.reg ⟨[.lt 20 [] (.bin .neq (.s 7) (pI 0)),.call 21 [(20,false)] (.id 21) false false [.mm 6 0 2],.lt 22 [] (.ite (.s 20) pT (.bin .neq (.s 5) (.s 21))),.lt 23 [] (.ite (.s 22) pT (.bin .lss (.s 5) (pI 0))),.call 24 [(23,false)] (.id 22) false false [.mm 4 0 10],.lt 25 [] (.ite (.s 23) pT (.bin .gtr (.s 5) (.bin .add (.bin .add (.len (.m 4 5)) (.len (.m 4 6))) (.s 24))))],[([(20,false)],.bin .neq (.s 5) (.s 21)),([(22,false)],.bin .lss (.s 5) (pI 0)),([(23,false)],.bin .gtr (.s 5) (.bin .add (.bin .add (.len (.m 4 5)) (.len (.m 4 6))) (.s 24))),([(25,false)],.bin .neq (.len (.m 6 1)) (.len (.m 4 9)))],[pV 8 (.ite (.s 25) pT (.bin .neq (.len (.m 6 1)) (.len (.m 4 9))))]⟩] (.cond (.s 8) (pQ [pR [pV 2 pF]] .ret) .skip),pQ [pR [pV 9 (pI 0)]] (.block 0 (.loop [0,1,2,3,4,5,6,7,8,9] (pQ [pQ [pR [pV 10 (.bin .lss (.s 9) (.len (.m 4 9)))]] (.cond (.s 10) .skip (.exit 0)),.block 1 (pQ [pQ [.reg ⟨[.lt 26 [] (.eqv true (.bin .eql (.fld (.idx (.m 4 9) (.s 9) 1) 0) (pU 0)) (.bin .eql (.fld (.idx (.m 6 1) (.s 9) 1) 0) (pI (-1))))],[([(26,false)],.bin .geq (.fld (.idx (.m 6 1) (.s 9) 1) 0) (.len (.m 6 0)))],[pV 11 (.ite (.s 26) pT (.bin .geq (.fld (.idx (.m 6 1) (.s 9) 1) 0) (.len (.m 6 0))))]⟩] (.cond (.s 11) (pQ [pR [pV 2 pF]] .ret) .skip),pR [pV 12 (pI 0)]] (.block 2 (.loop [0,1,2,3,4,5,6,7,8,9,10,11,12] (pQ [pQ [pR [pV 13 (.bin .lss (.s 12) (.s 9))]] (.cond (.s 13) .skip (.exit 2)),.block 3 (pQ [pR [pV 14 (.eqv true (.bin .eql (.fld (.idx (.m 4 9) (.s 9) 1) 0) (.fld (.idx (.m 4 9) (.s 12) 1) 0)) (.bin .eql (.fld (.idx (.m 6 1) (.s 9) 1) 0) (.fld (.idx (.m 6 1) (.s 12) 1) 0)))]] (.cond (.s 14) (pQ [pR [pV 2 pF]] .ret) .skip))] (pR [pV 12 (.bin .add (.s 12) (pI 1))])))))] (pR [pV 9 (.bin .add (.s 9) (pI 1))])))),pR [(15,pM (.mm 4 0 10) 10)],pR [(15,.m [.m 15 0,.m 15 1,.m 15 2,.m 15 3,.m 15 4,.m 15 5,.m 15 6,.m 15 7,.m 15 8,.mk (.int .u64 0) (.len (.m 4 9))])],.reg ⟨[.lt 27 [] (.s 3),.call 28 [(27,true)] (.id 20) false true [.mm 15 0 10]],[([(27,true)],.bin .eql (.s 28) (pI 0))],[pV 2 (.ite (.s 27) (.bin .eql (.s 28) (pI 0)) pF)]⟩] .ret,[(2,.v)]⟩
def c4:Zf (bes Try.prog) fresh sig [.fz] [] Try.f4=some p4:=Z2
def p13:Fn:=⟨9,[0,1,2,3,4,5,6,7,8],
pQ [pR [pV 0 pF],.reg ⟨[],[([],.ag [pU 10,pI 5,pI 0,pF,pI 2,.lit [pU 2,pU 6],pN,pN,pN,.lit [pU 21,pU 0]])],[(1,.m [pU 10,pI 5,pI 0,pF,pI 2,.lit [pU 2,pU 6],pN,pN,pN,.lit [pU 21,pU 0]])]⟩,pC [pK 9 15 [.mm 1 0 10]] [(2,pM (.sz (.ext (.s 9) 0) 2) 2),pV 3 (.fl (.ext (.s 9) 1))],pC [pK 10 15 [pY]] [(4,pM (.sz (.ext (.s 10) 0) 2) 2),pV 5 (.ext (.s 10) 1)],.reg ⟨[],[([],.ag [pU 10,pI 5,pI 1,pT,pI 0,.lit [pU 2,pU 6],pN,.lit [pU 31,pU 0],pN,.lit [pU 31,pU 0]])],[(6,.m [pU 10,pI 5,pI 1,pT,pI 0,.lit [pU 2,pU 6],pN,.lit [pU 31,pU 0],pN,.lit [pU 31,pU 0]])]⟩,pC [pK 11 15 [.mm 6 0 10]] [(7,pM (.sz (.ext (.s 11) 0) 2) 2),pV 8 (.fl (.ext (.s 11) 1))],.reg ⟨[.lt 12 [] (.bin .eql (.s 3) (pI 0)),.call 13 [(12,true)] (.id 18) false false [.mm 2 0 2,.ag [.lit [.ag [pN,.lit [pU 6]]],.lit [pI 0,pI (-1)]]],.lt 14 [] (.ite (.s 12) (.s 13) pF),.lt 15 [] (.ite (.s 14) (.bin .eql (.s 5) (pI 1)) pF),.lt 16 [] (.ite (.s 15) (.bin .eql (.s 8) (pI 0)) pF),.call 17 [(16,true)] (.id 18) false false [.mm 7 0 2,.mm 2 0 2],.lt 18 [] (.ite (.s 16) (.s 17) pF),.call 19 [(18,true)] (.id 20) false false [.mm 1 0 10],.lt 20 [] (.ite (.s 18) (.bin .eql (.s 19) (pI 2)) pF),.call 21 [(20,true)] (.id 20) false false [pY]],[([(14,true)],.bin .eql (.s 5) (pI 1)),([(15,true)],.bin .eql (.s 8) (pI 0)),([(18,true)],.bin .eql (.s 19) (pI 2)),([(20,true)],.bin .eql (.s 21) (pI 0))],[pV 0 (.ite (.s 20) (.bin .eql (.s 21) (pI 0)) pF)]⟩] .ret,[(0,.v)]⟩
def c13:Zf (bes Try.prog) fresh sig [] [] Try.f13=some p13:=Z2
def p20:Fn:=⟨6,[0,1,2,3,4,11],
pQ [pR [(1,pS 0 10),pV 2 (pI 0)],pC [pK 6 15 [.mm 1 0 10]] [(3,pM (.sz (.ext (.s 6) 0) 2) 2),pV 4 (.ext (.s 6) 1)],pQ [pR [pV 5 (.bin .neq (.s 4) (pI 0))]] (.cond (.s 5) (pQ [pR [pV 2 (pI 0)]] .ret) .skip),pC [pK 7 21 [.mm 3 0 2]] [pV 2 (.s 7)]] .ret,[(2,.v)]⟩
def c20:Zf (bes Try.prog) fresh sig [.fz] [] Try.f20=some p20:=Z2
end Vm
end
section
namespace Vm
open Go Go.Proofs
theorem Qz{P:Program}{f:FuncId}{fn:Func}{c:Code}(h1:P.funcs[f]?=some fn)(h2:fn.body=some c)(h3:JM P c=true):FitF (bes P) f:=⟨λg d hg hd=>by
 have e:(bes P).funcs[f]?=P.funcs[f]? :=rfl;rw[e,h1]at hg;cases hg;rw[h2]at hd;cases hd;exact AM h3⟩
def Z2b(l:List Int):NoM (.sl (l.map vi)):=.sl _ λc hc=>by
 have:flat (l.map vi)=l.map vi:=YG λx hx=>Z42;rw[this]at hc;obtain⟨y,_,rfl⟩:=Z4I.1 hc;exact .int _ _
def Rf(g:Gr):NoM (grV g):=(Mg g).m
def nom1{x:V}(h:NoM x):∀y∈[x],NoM y:=λy hy=>by rw[Z5x.1 hy];exact h
def nom2{x z:V}(h:NoM x)(k:NoM z):∀y∈[x,z],NoM y:=λy hy=>by
 simp only[Z4H,Z5t,Z6u]at hy;obtain rfl|rfl:=hy
 ·exact h
 ·exact k
def up{f:FuncId}{args:List V}{r:V}(hv:VC Sol.prog f false args r)(ha:∀x∈args,NoM x)(hr:NoM r):VC (bes Try.prog) f false args r:=EW Sol.sub hv ha hr
def DC{g:Gr}(hg:g.sm):VC (bes Try.prog) 21 false [grV g] (vi (words g)):=up (GY hg) (nom1 (Rf g)) (.int _ _)
def GV{a b:Gr}(ha:a.sm):VC (bes Try.prog) 18 false [grV a,grV b] (.bool (decide (a=b))):=up (MG ha) (nom2 (Rf a) (Rf b)) (.bool _)
def vg(h:Hp):Gr:=(Yk h).gr h.roots
def ofG(h:Hp):Gr×Int:=if YC h=true/\right (vg h)=true then(ZT (vg h),0)else(noGr,1)
def t9(h:Hp):ofR h=.tup [grV (ofG h).1,vi (ofG h).2]:=by
 unfold ofR ofG XC vg;by_cases h1:YC h=true
 ·rw[if_pos h1];by_cases h2:right ((Yk h).gr h.roots)=true
  ·rw[if_pos h2,if_pos ⟨h1,h2⟩]
  ·rw[if_neg h2,if_neg λx=>h2 x.2]
 ·rw[if_neg h1,if_neg λx=>h1 x.1]
def Fr{h:Hp}(hh:h.ok):(ofG h).1.sm:=by
 unfold ofG;split
 ·rename_i k;exact Li (ofOk hh k.1).sm.gr k.2
 ·exact⟨by simp[noGr],by simp[noGr],by simp[noGr]⟩
def Qb{h:Hp}(hh:h.ok):VC (bes Try.prog) 15 false [hpV h] (.tup [grV (ofG h).1,vi (ofG h).2]):=by
 rw[<-t9];exact OM hh
def Hu(h:Hp):Nat:=if(ofG h).2=0 then words (ofG h).1 else 0
instance fitLive:FitF (bes Try.prog) 20:=Qz (P:=Try.prog) Try.func20 rfl Z2
def Dx{h:Hp}(hh:h.ok):VC (bes Try.prog) 20 false [hpV h] (vi (Hu h)):=by
 refine Z8 (P:=bes Try.prog) Try.func20 Tr Z2 c20 rfl ?_;have k:=Qb hh;have ks:=Fr hh;unfold Hu;generalize ofG h=g at*;obtain⟨g,e⟩:=g;simp only at k ks⊢;simp[p20];refine Z4 k Z1 ?_;by_cases he:e=0
 ·simp[he];refine Z4 (DC ks) Z1 ?_;simp
 ·simp[he]
def ey1:Hp:=⟨10,5,0,false,2,[2,6],[],[],[],[21,0]⟩
def ey2:Hp:=⟨10,5,1,true,0,[2,6],[],[31,0],[],[31,0]⟩
def eyG:Gr:=⟨[⟨[],[6]⟩],[0,-1]⟩
def M6:ey1.ok:=by refine⟨?_,?_,?_,?_,?_,?_,?_,?_,?_,?_,?_,?_,?_,?_⟩<;>simp[ey1,U64,Fit]
def Pe:ey2.ok:=by refine⟨?_,?_,?_,?_,?_,?_,?_,?_,?_,?_,?_,?_,?_,?_⟩<;>simp[ey2,U64,Fit]
instance fitAwake:FitF (bes Try.prog) 13:=Qz (P:=Try.prog) Try.func13 rfl Z2
def C2:VC (bes Try.prog) 13 false [] (.bool true):=by
 refine Z8 (P:=bes Try.prog) Try.func13 Tr Z2 c13 rfl ?_;have hfl:flV (vi 0)=some (vi 0):=Z4r;have r1:ofG ey1=(eyG,0):=Z3O;have r2:ofG Hp.zero=(noGr,1):=Z3O;have r3:ofG ey2=(eyG,0):=Z3O;have l1:Hu ey1=2:=Z3O;have l2:Hu Hp.zero=0:=Z3O;have a1:=Qb M6;have a2:=Qb Hp.zero_ok;have a3:=Qb Pe;have b1:=Dx M6;have b2:=Dx Hp.zero_ok;have s1:=GV (a:=eyG) (b:=eyG) (by simp[eyG,Gr.sm]);rw[r1]at a1;rw[r2]at a2;rw[r3]at a3;rw[l1]at b1;rw[l2]at b2;simp[ey1,ey2,eyG,Hp.zero,hpV,grV,ndV,noGr]at a1 a2 a3 b1 b2 s1;simp[p13];refine Z4 a1 Z1 ?_;simp[hfl];refine Z4 a2 Z1 ?_;simp[hfl];refine Z4 a3 Z1 ?_;simp[hfl];refine Z4 s1 Z1 ?_;simp[hfl];refine Z4 s1 Z1 ?_;simp[hfl];refine Z4 b1 Z1 ?_;simp[hfl];refine Z4 b2 Z1 ?_;simp[hfl]
end Vm
end
section

end
section
namespace Vm
open Go Go.Proofs
section
def WJ{h:Hp}{k j:Int}(hk:1<=k/\k<=4)(hj:1<=j/\j<=4)(l:List Int):Zd (Xa h k l) j=if j=k then l else Zd h j:=by
 have h1:k=1\/k=2\/k=3\/k=4:=Z0;have h2:j=1\/j=2\/j=3\/j=4:=Z0;obtain rfl|rfl|rfl|rfl:=h1<;>obtain rfl|rfl|rfl|rfl:=h2<;>rfl
def ndAt(b:Bt)(i:Nat):Nd:=(b.g.nodes[i]?).getD default
def Za(b:Bt)(i:Nat):Pl:=(b.here[i]?).getD ⟨0,0⟩
def ZC(b:Bt)(i:Nat):Pl:=(b.old[i]?).getD ⟨0,0⟩
def hdrN(n:Nd):Int:=(RD ((n.ptrs.length:Int)+n.data.length) n.ptrs.length).1
def XE(b:Bt)(p:Pl)(n:Nd)(tw:Int):List Int:=hdrN n::(Ys b p p.at_.toNat n.ptrs tw++n.data)
def Tt(b:Bt)(p:Pl)(n:Nd):List Int:=refB b.h p::List.replicate (sizN n-1) 0
def blkB(b:Bt)(x:Rw)(k:Int)(i:Nat):List Int:=
 if(Za b i).part=k then XE b (Za b i) (ndAt b i) (IntKind.i64.wrap (x.slack+i))
 else if(ZC b i).part=k then(if(Za b i).part=0 then XE b (ZC b i) (ndAt b i) 0 else Tt b (Za b i) (ndAt b i))
 else []
def cat(b:Bt)(x:Rw)(k:Int)(i:Nat):List Int:=(List.range i).flatMap (blkB b x k)
theorem YF(b:Bt)(x:Rw)(k:Int)(i:Nat):cat b x k (i+1)=cat b x k i++blkB b x k i:=by
 simp_all[cat,Z6D,Z6h]
theorem Yr(b:Bt)(p:Pl)(n:Nd)(tw:Int):(XE b p n tw).length=sizN n:=by
 grind [XE,Ys,sizN]
theorem XT(b:Bt)(p:Pl)(n:Nd):(Tt b p n).length=sizN n:=by
 grind [Tt,sizN]
structure Placed (b:Bt) (x:Rw):Prop where
 ok:BOk b
 here:∀i,i<b.g.nodes.length->(Za b i=⟨0,0⟩/\∃k:Int,(k=3\/k=4)/\(ZC b i).part=k)\/(((Za b i).part=1\/(Za b i).part=2)/\(Za b i).at_=((cat b x (Za b i).part i).length:Nat))
 old:∀i,i<b.g.nodes.length->ZC b i=⟨0,0⟩\/(((ZC b i).part=3\/(ZC b i).part=4)/\(ZC b i).at_=((cat b x (ZC b i).part i).length:Nat)/\(Za b i).part≠2)
 zero:∀k:Int,1<=k/\k<=4->Zd b.h k=List.replicate (cat b x k b.g.nodes.length).length 0
section
variable {b d:Bt}{x:Rw}
def Jh(hl:Like b d)(p:Pl):refB d.h p=refB b.h p:=by
 unfold refB;rw[hl.lay]
theorem D8(hl:Like b d)(p:Pl)(to tw:Int):UB d p to tw=UB b p to tw:=by
 unfold UB;rw[hl.here,hl.old,hl.scan,Jh hl,Jh hl]
def KH(hl:Like b d)(p:Pl)(n:Nd)(tw:Int):XE d p n tw=XE b p n tw:=by
 grind [XE,Ys,D8]
def jJ{p:Pl}{a m:Nat}{n:Nd}{tw:Int}{F:List Int}(hp:Zd d.h p.part=F++List.replicate m 0)(ha:F.length=a)(hat:p.at_.toNat=a)(hm:sizN n<=m):layL d p a n tw=F++XE d p n tw++List.replicate (m-sizN n) 0:=by
 simp_all[layL,List.replicate,sizN,Z89,Z67,XE,hdrN]
def O9{F:List Int}{a m s:Nat}{w:Int}(ha:F.length=a)(hs:1<=s)(hm:s<=m):(F++List.replicate m (0:Int)).set a w=F++(w::List.replicate (s-1) 0)++List.replicate (m-s) 0:=by
 rw[<-ha,Z8u _ _ (Z4A _),Z6b];obtain⟨m,rfl⟩:∃m',m=m'+1:=⟨m-1,Z0⟩;rw[List.replicate_succ,List.set_cons_zero,Z5A];congr 1;simp;omega
def Tk(b:Bt)(x:Rw)(k:Int){i j:Nat}(h:i<=j):∃r,cat b x k j=cat b x k i++r:=by
 induction j with
 |zero=>simp_all
 |succ j ih=>
  by_cases hij:i=j+1
  ·simp_all
  grind [blkB,YF,List.append_assoc]
def Upto(b:Bt)(x:Rw)(i:Nat)(d:Bt):Prop:=∀k:Int,1<=k/\k<=4->Zd d.h k=cat b x k i++List.replicate ((cat b x k b.g.nodes.length).length- (cat b x k i).length) 0
def FY(b:Bt)(x:Rw)(k:Int){i:Nat}(hi:i<b.g.nodes.length):(cat b x k i).length+(blkB b x k i).length<=(cat b x k b.g.nodes.length).length:=by
 obtain⟨r,hr⟩:=Tk b x k (Z0:i+1<=b.g.nodes.length)
 grind [YF]
def E9(hpl:Placed b x){i:Nat}(hi:i<b.g.nodes.length)(hl:Like b d)(hu:Upto b x i d):Upto b x (i+1) (Ch x d i):=by
 have en:(d.g.nodes[i]?).getD default=ndAt b i:=by rw[hl.g];rfl
 have ep:(d.here[i]?).getD ⟨0,0⟩=Za b i:=by rw[hl.here];rfl
 have eo:(d.old[i]?).getD ⟨0,0⟩=ZC b i:=by rw[hl.old];rfl
 unfold Ch;simp only[en,ep,eo];have hh:=hpl.here i hi;have ho:=hpl.old i hi;have hblk:=λk=>FY b x k hi;have hbk:∀k,blkB b x k i=if(Za b i).part=k then XE b (Za b i) (ndAt b i) (IntKind.i64.wrap (x.slack+i))else if(ZC b i).part=k then(if(Za b i).part=0 then XE b (ZC b i) (ndAt b i) 0 else Tt b (Za b i) (ndAt b i))else []:=λk=>rfl
 have l1:=Yr b (Za b i) (ndAt b i) (IntKind.i64.wrap (x.slack+i));have l2:=Yr b (ZC b i) (ndAt b i) 0;have l3:=XT b (Za b i) (ndAt b i);have e1:=KH hl (Za b i) (ndAt b i) (IntKind.i64.wrap (x.slack+i));have e2:=KH hl (ZC b i) (ndAt b i) 0;generalize Za b i=p at*;generalize ZC b i=o at*;generalize ndAt b i=n at*;have hs1:1<=sizN n:=by unfold sizN;omega
 obtain⟨rfl,ko,hko,hko2⟩|⟨hp,hat⟩:=hh
 ·
  have ho2:(o.part=3\/o.part=4)/\o.at_=((cat b x o.part i).length:Nat):=by
   obtain rfl|⟨h1,h2,_⟩:=ho
   ·grind
   ·omega
  have hA:Ru x d i n ⟨0,0⟩=d:=by unfold Ru;rw[if_neg Z1]
  have hO:Rx d n ⟨0,0⟩ o=layB d o n 0:=by unfold Rx;rw[if_pos ⟨Z0,rfl⟩]
  have hG:∀q,Sj q ⟨0,0⟩ o=q:=λq=>by simp_all[Sj,if_neg]
  rw[hA,hO,hG];intro k hk;have hbO:blkB b x o.part i=XE b o n 0:=by rw[hbk,if_neg Z3L,if_pos rfl,if_pos rfl]
  have hro:=hblk o.part;rw[hbO,l2]at hro;unfold layB;simp only;rw[WJ Z0 hk];by_cases hko:k=o.part
  ·rw[if_pos hko,hko,jJ (hu o.part Z0) Z0 rfl Z0,YF,hbO,e2]
   grind
  ·rw[if_neg hko,YF,hbk k,if_neg Z3L,if_neg (λh=>hko h.symm),Z5Z];exact hu k hk
 ·have hp0:¬p.part=0:=Z0;have hA:Ru x d i n p=layB d p n (IntKind.i64.wrap (x.slack+i)):=by unfold Ru;rw[if_pos Z0]
  have hO:∀q,Rx q n p o=q:=λq=>by simp_all[Rx,if_neg]
  rw[hA,hO];have hbP:blkB b x p.part i=XE b p n (IntKind.i64.wrap (x.slack+i)):=by rw[hbk,if_pos rfl]
  have hrp:=hblk p.part;rw[hbP,l1]at hrp
  have hlay:∀k:Int,1<=k/\k<=4->Zd (layB d p n (IntKind.i64.wrap (x.slack+i))).h k=if k=p.part then cat b x p.part (i+1)++List.replicate ((cat b x p.part b.g.nodes.length).length- (cat b x p.part (i+1)).length) 0 else Zd d.h k:=by
   intro k hk;unfold layB;simp only;rw[WJ Z0 hk];by_cases hkp:k=p.part
   ·rw[if_pos hkp,if_pos hkp,jJ (hu p.part Z0) Z0 rfl Z0,YF,hbP,e1]
    grind
   ·simp_all
  have hlk:refB (layB d p n (IntKind.i64.wrap (x.slack+i))).h p=refB b.h p:=by
   unfold refB
   have:layH (layB d p n (IntKind.i64.wrap (x.slack+i))).h=layH b.h:=by
    rw[<-hl.lay];unfold layB;simp only;refine S6 ?_;rw[jJ (hu p.part Z0) Z0 rfl Z0,hu p.part Z0,e1];simp[l1];omega
   rw[this]
  generalize layB d p n (IntKind.i64.wrap (x.slack+i))=q at*;obtain rfl|⟨ho1,ho2,ho3⟩:=ho
  ·have hG:Sj q p ⟨0,0⟩=q:=by simp_all[Sj,if_neg]
   rw[hG];intro k hk;rw[hlay k hk];by_cases hkp:k=p.part
   ·simp_all
   ·rw[if_neg hkp,YF,hbk k,if_neg (λh=>hkp h.symm),if_neg Z3L,Z5Z];exact hu k hk
  ·have hG:Sj q p o= {q with h:=Xa q.h o.part ((Zd q.h o.part).set o.at_.toNat (refB q.h p))}:=by unfold Sj;rw[if_pos ⟨Z0,Z0⟩]
   rw[hG];have hbO:blkB b x o.part i=Tt b p n:=by rw[hbk,if_neg Z0,if_pos rfl,if_neg hp0]
   have hro:=hblk o.part;rw[hbO,l3]at hro;intro k hk;simp only;rw[WJ Z0 hk,hlay o.part Z0,if_neg (Z0:¬o.part=p.part),hu o.part Z0,hlk];by_cases hko:k=o.part
   ·rw[if_pos hko,hko,O9 Z0 hs1 Z0,YF,hbO]
    grind [Tt]
   ·rw[if_neg hko,hlay k hk];by_cases hkp:k=p.part
    ·simp_all
    ·rw[if_neg hkp,YF,hbk k,if_neg (λh=>hkp h.symm),if_neg (λh=>hko h.symm),Z5Z];exact hu k hk
def zS(hpl:Placed b x):∀i,i<=b.g.nodes.length->Upto b x i (Sk x b i)
 |0,_=>by
  intro k hk;rw[Sk,hpl.zero k hk];simp[cat]
 |i+1,hi=>by
  rw[Sk];exact E9 hpl Z0 (yu hpl.ok i Z0) (zS hpl i Z0)
def Km(hpl:Placed b x){k:Int}(hk:1<=k/\k<=4):Zd (Y4 x b) k=cat b x k b.g.nodes.length:=by
 have h:=zS hpl b.g.nodes.length (Z4A _) k hk;rw[Z6b,List.replicate_zero,Z5Z]at h;rw[<-h];rfl
end
end
section
def jr(x:Rw)(c:Bool)(g:Gr)(i:Nat):Pl:=if clsK x i c=0 then⟨2,(stN x c g i).n2⟩else if clsK x i c=1 then⟨1,(stN x c g i).n1⟩else⟨0,0⟩
def oldF(x:Rw)(c:Bool)(g:Gr)(i:Nat):Pl:=if(decide (0<clsK x i c)&&c)=true then(if clsF x i then⟨4,(stN x c g i).n4⟩else⟨3,(stN x c g i).n3⟩)else⟨0,0⟩
def Of{x:Rw}{c:Bool}{g:Gr}(hg:∀n∈g.nodes,sizN n<=9):∀j,j<=g.nodes.length->∀i,i<j->(stN x c g j).here[i]?=some (jr x c g i)/\(stN x c g j).old[i]?=some (oldF x c g i)
 |0,_,i,hi=>Z0
 |j+1,hj,i,hi=>by
  obtain⟨_,_,l1,l2⟩:=U3 (x:=x) (cycle:=c) hg j Z0;rw[stN];simp only[ZV];by_cases hij:i<j
  ·have:=Of (x:=x) (c:=c) hg j Z0 i hij;rw[Z57 Z0,Z57 Z0];exact this
  ·have:i=j:=Z0;subst this;rw[Z4S Z0,Z4S Z0,l1,l2,Z6b];exact⟨rfl,rfl⟩
def nk(s:St8)(k:Int):Nat:=if k=1 then s.n1 else if k=2 then s.n2 else if k=3 then s.n3 else s.n4
section
variable {x:Rw}{c:Bool}
def sz9(x:Rw):∀n∈(mkG x.nodes x.roots).nodes,sizN n<=9:=λn hn=>by
 obtain⟨_,_,hb3⟩:=SB x.nodes x.roots;have:=hb3 n hn;unfold sizN;omega
def Wl(x:Rw)(c:Bool):(Zy x c).g=mkG x.nodes x.roots:=rfl
def QG{i:Nat}(hi:i< (mkG x.nodes x.roots).nodes.length):Za (Zy x c) i=jr x c (mkG x.nodes x.roots) i:=by
 unfold Za;show((stN x c (mkG x.nodes x.roots) (mkG x.nodes x.roots).nodes.length).here[i]?).getD _=_;rw[(Of (sz9 x) _ (Z4A _) i hi).1];rfl
def Bo{i:Nat}(hi:i< (mkG x.nodes x.roots).nodes.length):ZC (Zy x c) i=oldF x c (mkG x.nodes x.roots) i:=by
 unfold ZC;show((stN x c (mkG x.nodes x.roots) (mkG x.nodes x.roots).nodes.length).old[i]?).getD _=_;rw[(Of (sz9 x) _ (Z4A _) i hi).2];rfl
def Lj:∀i,i<=(mkG x.nodes x.roots).nodes.length->∀k:Int,1<=k/\k<=4->(cat (Zy x c) x k i).length=nk (stN x c (mkG x.nodes x.roots) i) k
 |0,_,k,hk=>by simp[cat,stN,nk]
 |i+1,hi,k,hk=>by
  have ih:=Lj i Z0 k hk;rw[YF,Z5N,ih];have hn:ndAt (Zy x c) i=((mkG x.nodes x.roots).nodes[i]?).getD default:=rfl;unfold blkB;rw[QG (Z0:i< (mkG x.nodes x.roots).nodes.length),Bo (Z0:i< (mkG x.nodes x.roots).nodes.length),hn,stN];generalize ((mkG x.nodes x.roots).nodes[i]?).getD default=n;have hk4:k=1\/k=2\/k=3\/k=4:=Z0;unfold jr oldF;generalize stN x c (mkG x.nodes x.roots) i=s;obtain h0|h1|⟨h2,rfl⟩:=YU x i c
  ·obtain rfl|rfl|rfl|rfl:=hk4<;>simp[nk,ZV,h0,Yr]
  ·cases c<;>cases hf:clsF x i<;>obtain rfl|rfl|rfl|rfl:=hk4<;>simp[nk,ZV,h1,hf,Yr,XT]
  ·cases hf:clsF x i<;>obtain rfl|rfl|rfl|rfl:=hk4<;>simp[nk,ZV,h2,hf,Yr,XT]
def Rp(hx:x.ok):Placed (Zy x c) x:=by
 refine⟨(S3 hx c).1,λi hi=> ?_,λi hi=> ?_,λk hk=> ?_⟩
 ·rw[Wl]at hi;rw[QG hi,Bo hi];have hl:=λk hk=>Lj (x:=x) (c:=c) i Z0 k hk;unfold jr oldF;obtain h0|h1|⟨h2,rfl⟩:=YU x i c
  ·right;simp[h0,hl 2,nk]
  ·right;simp[h1,hl 1,nk]
  ·left;refine⟨by simp[h2],?_⟩;cases hf:clsF x i
   ·exact⟨3,.inl rfl,by simp[h2]⟩
   ·exact⟨4,.inr rfl,by simp[h2]⟩
 ·rw[Wl]at hi;rw[QG hi,Bo hi];have hl:=λk hk=>Lj (x:=x) (c:=c) i Z0 k hk;unfold jr oldF;obtain h0|h1|⟨h2,rfl⟩:=YU x i c
  ·left;simp[h0]
  ·cases c
   ·left;simp
   ·right;cases hf:clsF x i
    ·simp[h1,hl 3,nk]
    ·simp[h1,hl 4,nk]
  ·right;cases hf:clsF x i
   ·simp[h2,hl 3,nk]
   ·simp[h2,hl 4,nk]
 ·rw[Wl,Lj _ (Z4A _) k hk];have hk4:k=1\/k=2\/k=3\/k=4:=Z0;obtain rfl|rfl|rfl|rfl:=hk4<;>rfl
end
end
section
def qF(h:Hp){k:Int}(hk:1<=k/\k<=4):sizL (layH h) k=(Zd h k).length:=by
 have h1:k=1\/k=2\/k=3\/k=4:=Z0;obtain rfl|rfl|rfl|rfl:=h1<;>rfl
def Gw{s p:Int}(h:Zo s p=true):unpk (RD s p).1=(s,p,0):=by
 have h2:=Zc.1 h;unfold RD;rw[if_pos h];unfold unpk
 grind
theorem ER(h:Hp)(p:Pl):RC (refB h p)=true:=by
 unfold refB RC;split
 ·rfl
 unfold RF;split
 ·rfl
 ·rename_i h1;unfold adr
  grind
theorem Cz(b:Bt)(p:Pl)(to tw:Int):RC (UB b p to tw)=true:=by
 unfold UB;split
 ·rfl
 grind [ER]
def Us{gone:Bool}{ptrs:Int}:∀ {l:List Int} {i:Nat},(∀(j:Nat) (w:Int),l[j]?=some w->(gone=true->w=0)/\(((i+j:Nat):Int)<ptrs->RC w=true))->ZO l gone ptrs i=true
 | [],_,_=>rfl
 |w::l,i,h=>by
  obtain⟨h1,h2⟩:=h 0 w rfl
  have ih:ZO l gone ptrs (i+1)=true:=Us λj y hy=>by
   have:=h (j+1) y hy
   grind
  rw[ZO,ih]
  grind
theorem Jw{b:Bt}{p:Pl}{n:Nd}{tw:Int}{F r:List Int}{old:Bool}(hat:p.at_=(F.length:Nat))(hn:sizN n<=9):Stands (F++XE b p n tw++r) old ⟨p.at_,(n.ptrs.length:Int)+n.data.length,n.ptrs.length,false,0⟩:=by
 have hsh:Zo ((n.ptrs.length:Int)+n.data.length) n.ptrs.length=true:=by
  unfold sizN at hn;exact Zc.2 Z0
 have hw:(F++XE b p n tw++r)[F.length]?=some (hdrN n):=by
  rw[Z5A,Z4S (Z4A _),Z6b];rfl
 have hu:=Gw hsh;refine⟨Z3M,hsh,?_,?_,hdrN n,Z3M,?_⟩
 ·grind [Yr,sizN,List.length_append]
 ·simp only[hat,Z5f]
  have e:((F++XE b p n tw++r).drop (F.length+1)).take ((n.ptrs.length:Int)+n.data.length).toNat=Ys b p p.at_.toNat n.ptrs tw++n.data:=by
   have e1:((n.ptrs.length:Int)+n.data.length).toNat=(Ys b p p.at_.toNat n.ptrs tw++n.data).length:=by simp[Ys];omega
   rw[e1,Z5A,Z89,Z67 Z0,Z7j,Z5G];have e2:(XE b p n tw++r).drop 1=(Ys b p p.at_.toNat n.ptrs tw++n.data)++r:=rfl;rw[e2,Z8A]
  rw[e];refine Us λj w hw=>⟨Z1,λhlt=> ?_⟩;have hlt':j<n.ptrs.length:=by simpa using hlt
  rw[Z57 (by simp_all[Ys])]at hw;simp only[Ys,Z4M,Z4w]at hw;obtain⟨q,_,rfl⟩:=hw
  grind [Cz]
 simp_all[Z4G,Z5h,GZ,hdrN,trivial]
def Av{b:Bt}{p o:Pl}{n:Nd}{F r:List Int}(hat:o.at_=(F.length:Nat))(hn:sizN n<=9)(ha:(adr (refB b.h p)).2=0):Stands (F++Tt b p n++r) true ⟨o.at_,(n.ptrs.length:Int)+n.data.length,n.ptrs.length,true,(adr (refB b.h p)).1⟩:=by
 have hsh:Zo ((n.ptrs.length:Int)+n.data.length) n.ptrs.length=true:=by
  unfold sizN at hn;exact Zc.2 Z0
 have hw:(F++Tt b p n++r)[F.length]?=some (refB b.h p):=by
  rw[Z5A,Z4S (Z4A _),Z6b];rfl
 refine⟨by show 0<=o.at_;omega,hsh,?_,?_,_,by rw[hat];simpa using hw,?_⟩
 ·have:=XT b p n;unfold sizN at this;simp only[Z5N,this,hat];omega
 ·simp only[hat,Z5f]
  have e:((F++Tt b p n++r).drop (F.length+1)).take ((n.ptrs.length:Int)+n.data.length).toNat=List.replicate (sizN n-1) 0:=by
   have e1:((n.ptrs.length:Int)+n.data.length).toNat=(List.replicate (sizN n-1) (0:Int)).length:=by simp[sizN];omega
   rw[e1,Z5A,Z89,Z67 Z0,Z7j,Z5G];have e2:(Tt b p n++r).drop 1=List.replicate (sizN n-1) 0++r:=rfl;rw[e2,Z8A]
  rw[e];refine Us λj w hw=> ?_;have:=(List.mem_replicate.1 (Z4B hw)).2;subst this;exact⟨λ_=>rfl,λ_=>rfl⟩
 ·simp only[Z5b];exact⟨trivial,ha,trivial⟩
def obAt(b:Bt)(k:Int)(i:Nat):List Ob:=
 if(Za b i).part=k then [⟨(Za b i).at_,((ndAt b i).ptrs.length:Int)+(ndAt b i).data.length,(ndAt b i).ptrs.length,false,0⟩]
 else if(ZC b i).part=k then(if(Za b i).part=0 then [⟨(ZC b i).at_,((ndAt b i).ptrs.length:Int)+(ndAt b i).data.length,(ndAt b i).ptrs.length,false,0⟩]
  else [⟨(ZC b i).at_,((ndAt b i).ptrs.length:Int)+(ndAt b i).data.length,(ndAt b i).ptrs.length,true,(adr (refB b.h (Za b i))).1⟩])
 else []
def obs(b:Bt)(k:Int):List Ob:=(List.range b.g.nodes.length).flatMap (obAt b k)
section
variable {b:Bt}{x:Rw}
def Placed.nine(hpl:Placed b x)(h9:∀n∈b.g.nodes,sizN n<=9){i:Nat}(hi:i<b.g.nodes.length):sizN (ndAt b i)<=9:=by
 simp_all[ndAt,Z4u,Z4J]
def Placed.len(hpl:Placed b x){k:Int}(hk:1<=k/\k<=4):sizL (layH b.h) k=((cat b x k b.g.nodes.length).length:Nat):=by
 rw[qF b.h hk,hpl.zero k hk];simp
def Placed.here_in(hpl:Placed b x){i:Nat}(hi:i<b.g.nodes.length)(hp:(Za b i).part≠0):((Za b i).part=1\/(Za b i).part=2)/\(Za b i).at_=((cat b x (Za b i).part i).length:Nat)/\(Za b i).at_+sizN (ndAt b i)<=sizL (layH b.h) (Za b i).part:=by
 obtain⟨h,_⟩|⟨h1,h2⟩:=hpl.here i hi
 ·simp_all
 ·refine⟨h1,h2,?_⟩;have:=FY b x (Za b i).part hi;rw[hpl.len Z0,h2];have e:blkB b x (Za b i).part i=XE b (Za b i) (ndAt b i) (IntKind.i64.wrap (x.slack+i)):=by unfold blkB;rw[if_pos rfl]
  grind [Yr]
def Placed.old_in(hpl:Placed b x){i:Nat}(hi:i<b.g.nodes.length)(hp:(ZC b i).part≠0):((ZC b i).part=3\/(ZC b i).part=4)/\(ZC b i).at_=((cat b x (ZC b i).part i).length:Nat)/\(Za b i).part≠2/\(ZC b i).at_+sizN (ndAt b i)<=sizL (layH b.h) (ZC b i).part:=by
 obtain h|⟨h1,h2,h3⟩:=hpl.old i hi
 ·simp_all
 ·refine⟨h1,h2,h3,?_⟩;have:=FY b x (ZC b i).part hi;rw[hpl.len Z0,h2]
  have hh:(Za b i).part=0\/(Za b i).part=1:=by
   by_cases h0:(Za b i).part=0
   ·omega
   ·have:=(hpl.here_in hi h0).1;omega
  have e:(blkB b x (ZC b i).part i).length=sizN (ndAt b i):=by
   unfold blkB;rw[if_neg Z0,if_pos rfl];split
   ·grind [Yr]
   ·exact XT _ _ _
  omega
def Placed.ref_here(hpl:Placed b x)(hr:Zi (layH b.h)=true){i:Nat}(hi:i<b.g.nodes.length)(hp:(Za b i).part≠0):refB b.h (Za b i)=refR (layH b.h) (Za b i).part (Za b i).at_:=by
 obtain⟨h1,h2,h3⟩:=hpl.here_in hi hp;have hs:1<=sizN (ndAt b i):=by grind [sizN]
 unfold refB;rw[if_neg hp,Sa hr Z0 ⟨Z0,Z0⟩];have:=Y1 hr (Za b i).part;unfold RF refR
 grind
def Placed.ref_old(hpl:Placed b x)(hr:Zi (layH b.h)=true){i:Nat}(hi:i<b.g.nodes.length)(hp:(ZC b i).part≠0):refB b.h (ZC b i)=refR (layH b.h) (ZC b i).part (ZC b i).at_:=by
 obtain⟨h1,h2,_,h3⟩:=hpl.old_in hi hp;have hs:1<=sizN (ndAt b i):=by grind [sizN]
 unfold refB;rw[if_neg hp,Sa hr Z0 ⟨Z0,Z0⟩];have:=Y1 hr (ZC b i).part;unfold RF refR
 grind
def yR(hpl:Placed b x)(hr:Zi (layH b.h)=true)(h9:∀n∈b.g.nodes,sizN n<=9){k:Int}(hk:1<=k/\k<=4):∀(m i:Nat),i+m=b.g.nodes.length->Tiles (cat b x k b.g.nodes.length) (decide (2<k)) (cat b x k i).length ((List.range' i m).flatMap (obAt b k))
 |0,i,hi=>by
  have:i=b.g.nodes.length:=Z0;subst this;exact Z4A _
 |m+1,i,hi=>by
  have ih:=yR hpl hr h9 hk m (i+1) Z0;have hlt:i<b.g.nodes.length:=Z0;have h9i:=hpl.nine h9 hlt;obtain⟨r,hrr⟩:=Tk b x k (Z0:i+1<=b.g.nodes.length);rw[List.range'_succ,Z80];have hs:=YF b x k i;by_cases h1:(Za b i).part=k
  ·have hb:blkB b x k i=XE b (Za b i) (ndAt b i) (IntKind.i64.wrap (x.slack+i)):=by unfold blkB;rw[if_pos h1]
   have ho:obAt b k i=[⟨(Za b i).at_,((ndAt b i).ptrs.length:Int)+(ndAt b i).data.length,(ndAt b i).ptrs.length,false,0⟩]:=by unfold obAt;rw[if_pos h1]
   obtain⟨_,q2,_⟩:=hpl.here_in hlt Z0;rw[h1]at q2;rw[ho];refine⟨q2,?_,?_⟩
   ·grind [Jw]
   ·rw[hs,hb,Z5N,Yr]at ih;have:(((ndAt b i).ptrs.length:Int)+(ndAt b i).data.length).toNat=sizN (ndAt b i) -1:=by grind [sizN]
    simp only[this];rw[show(cat b x k i).length+1+(sizN (ndAt b i) -1)=(cat b x k i).length+sizN (ndAt b i)by grind [sizN]];exact ih
  by_cases h2:(ZC b i).part=k
  ·obtain⟨q1,q2,q3,q4⟩:=hpl.old_in hlt Z0;have hk3:2<k:=Z0;rw[h2]at q2
   have hlen:(cat b x k (i+1)).length=(cat b x k i).length+1+(((ndAt b i).ptrs.length:Int)+(ndAt b i).data.length).toNat:=by
    have e:(blkB b x k i).length=sizN (ndAt b i):=by
     unfold blkB;rw[if_neg h1,if_pos h2];split
     ·grind [Yr]
     ·exact XT _ _ _
    rw[hs,Z5N,e];unfold sizN;omega
   rw[hlen]at ih;by_cases h3:(Za b i).part=0
   ·have hb:blkB b x k i=XE b (ZC b i) (ndAt b i) 0:=by unfold blkB;rw[if_neg h1,if_pos h2,if_pos h3]
    have ho:obAt b k i=[⟨(ZC b i).at_,((ndAt b i).ptrs.length:Int)+(ndAt b i).data.length,(ndAt b i).ptrs.length,false,0⟩]:=by unfold obAt;rw[if_neg h1,if_pos h2,if_pos h3]
    rw[ho];refine⟨q2,?_,ih⟩
    grind [Jw]
   ·have hb:blkB b x k i=Tt b (Za b i) (ndAt b i):=by unfold blkB;rw[if_neg h1,if_pos h2,if_neg h3]
    have ho:obAt b k i=[⟨(ZC b i).at_,((ndAt b i).ptrs.length:Int)+(ndAt b i).data.length,(ndAt b i).ptrs.length,true,(adr (refB b.h (Za b i))).1⟩]:=by unfold obAt;rw[if_neg h1,if_pos h2,if_neg h3]
    rw[ho];refine⟨q2,?_,ih⟩;rw[hrr,hs,hb,decide_eq_true hk3];refine Av q2 h9i ?_;obtain⟨u1,u2,_⟩:=hpl.here_in hlt h3;rw[hpl.ref_here hr hlt h3,Sb hr Z0]
  simp_all[blkB,if_neg,obAt,Z5G,Z5Z]
def I4(hpl:Placed b x)(hr:Zi (layH b.h)=true)(h9:∀n∈b.g.nodes,sizN n<=9){k:Int}(hk:1<=k/\k<=4):Tiles (Zd (Y4 x b) k) (decide (2<k)) 0 (obs b k):=by
 rw[Km hpl hk];have:=yR hpl hr h9 hk b.g.nodes.length 0 Z0;unfold obs;rw[List.range_eq_range'];exact this
def SA{k:Int}{o:Ob}:o∈obs b k↔ ∃i,i<b.g.nodes.length/\o∈obAt b k i:=by
 grind [obs]
end
end
section
structure Made (b:Bt) (x:Rw):Prop where
 pl:Placed b x
 lay:Zi (layH b.h)=true
 nine:∀n∈b.g.nodes,sizN n<=9
 cyc:b.h.cycle=true->∀i,i<b.g.nodes.length->(Za b i).part=1->(ZC b i).part≠0
 scan:0<=b.h.scan/\b.h.scan<=b.h.low.length/\(if b.h.cycle then b.h.scan<b.h.low.length else b.h.scan=b.h.low.length/\b.h.old=[]/\b.h.far=[])
 room:(b.h.low.length:Int)+b.h.high.length+((wtL (obs b 3)+wtL (obs b 4):Nat):Int)<=b.h.cap
 fit:Fit b.h.scan
def ptsB(b:Bt):Pts:=⟨obs b 1,obs b 2,obs b 3,obs b 4⟩
theorem Ad(b:Bt){k:Int}(hk:1<=k/\k<=4):(ptsB b).at k=obs b k:=by
 have h1:k=1\/k=2\/k=3\/k=4:=Z0;obtain rfl|rfl|rfl|rfl:=h1<;>rfl
section
variable {b:Bt}{x:Rw}
def Made.fill(m:Made b x):(Y4 x b).ok/\layH (Y4 x b)=layH b.h/\(Y4 x b).scan=b.h.scan/\(Y4 x b).cycle=b.h.cycle:=B1 m.pl.ok m.fit
def Made.tiles(m:Made b x){k:Int}(hk:1<=k/\k<=4):Tiles (Zd (Y4 x b) k) (decide (2<k)) 0 (obs b k):=I4 m.pl m.lay m.nine hk
def Made.start(m:Made b x){k a:Int}(hk:1<=k/\k<=4)(ha:0<=a/\a<sizL (layH b.h) k):ZM (Y4 x b) k a=fstL (layH b.h) k+a:=by
 unfold ZM;rw[m.fill.2.1,Sa m.lay hk ha]
def Q4(n:Nd):1<=sizN n:=by grind [sizN]
def Made.ob_here(m:Made b x){i:Nat}(hi:i<b.g.nodes.length)(hp:(Za b i).part≠0):∃o∈obs b (Za b i).part,o.at_=(Za b i).at_/\o.size=((ndAt b i).ptrs.length:Int)+(ndAt b i).data.length/\o.ptrs=(ndAt b i).ptrs.length/\o.gone=false:=
 ⟨_,SA.2 ⟨i,hi,by unfold obAt;rw[if_pos rfl];exact .head _⟩,rfl,rfl,rfl,rfl⟩
def Made.ob_old(m:Made b x){i:Nat}(hi:i<b.g.nodes.length)(hp:(ZC b i).part≠0):∃o∈obs b (ZC b i).part,o.at_=(ZC b i).at_:=by
 obtain⟨h1,h2,h3,h4⟩:=m.pl.old_in hi hp
 have hne:¬(Za b i).part=(ZC b i).part:=by
  by_cases h0:(Za b i).part=0
  ·omega
  ·have:=(m.pl.here_in hi h0).1;omega
 by_cases h0:(Za b i).part=0
 ·exact⟨_,SA.2 ⟨i,hi,by unfold obAt;rw[if_neg hne,if_pos rfl,if_pos h0];exact .head _⟩,rfl⟩
 ·exact⟨_,SA.2 ⟨i,hi,by unfold obAt;rw[if_neg hne,if_pos rfl,if_neg h0];exact .head _⟩,rfl⟩
def Made.to_here(m:Made b x){i:Nat}(hi:i<b.g.nodes.length):Xr (Y4 x b) (ptsB b) (refB b.h (Za b i)) 1 2=true:=by
 by_cases h0:(Za b i).part=0
 ·simp_all[refB,Za,if_pos,Xr]
 ·obtain⟨h1,h2,h3⟩:=m.pl.here_in hi h0;have hs:=Q4 (ndAt b i);obtain⟨o,ho,ha,_⟩:=m.ob_here hi h0;rw[m.pl.ref_here m.lay hi h0];unfold Xr;rw[Sb m.lay Z0]
  have:(atR (Y4 x b) (Za b i).part (obs b (Za b i).part) (fstL (layH b.h) (Za b i).part+(Za b i).at_)).isSome=true:=by
   refine Sc.2 ⟨o,ho,?_⟩;rw[ha,m.start Z0 ⟨Z0,Z0⟩]
  grind [Ad]
def Made.to_old(m:Made b x){i:Nat}(hi:i<b.g.nodes.length):Xr (Y4 x b) (ptsB b) (refB b.h (ZC b i)) 3 4=true:=by
 by_cases h0:(ZC b i).part=0
 ·simp_all[refB,ZC,if_pos,Xr]
 ·obtain⟨h1,h2,_,h3⟩:=m.pl.old_in hi h0;have hs:=Q4 (ndAt b i);obtain⟨o,ho,ha⟩:=m.ob_old hi h0;rw[m.pl.ref_old m.lay hi h0];unfold Xr;rw[Sb m.lay Z0]
  have:(atR (Y4 x b) (ZC b i).part (obs b (ZC b i).part) (fstL (layH b.h) (ZC b i).part+(ZC b i).at_)).isSome=true:=by
   refine Sc.2 ⟨o,ho,?_⟩;rw[ha,m.start Z0 ⟨Z0,Z0⟩]
  grind [Ad]
def Made.same_at(m:Made b x){k:Int}(hk:1<=k/\k<=4){o q:Ob}(ho:o∈obs b k)(hq:q∈obs b k)(h:q.at_=o.at_):q=o:=by
 have ht:=m.tiles hk;obtain h1|h1|h1:=ht.apart q hq o ho
 ·exact h1
 ·have:=Zc.1 (ht.stands q hq).1.shape;omega
 ·have:=Zc.1 (ht.stands o ho).1.shape;omega
def Made.ob_in(m:Made b x){k:Int}(hk:1<=k/\k<=4){o:Ob}(ho:o∈obs b k):0<=o.at_/\o.at_<sizL (layH b.h) k:=by
 have hs:=((m.tiles hk).stands o ho).1;have h1:=Zc.1 hs.shape;have h2:=hs.fits;have h3:=hs.nat;have:sizL (layH b.h) k=(Zd (Y4 x b) k).length:=by rw[<-m.fill.2.1,qF _ hk]
 omega
def Made.find(m:Made b x){k:Int}(hk:1<=k/\k<=4){o:Ob}(ho:o∈obs b k):atR (Y4 x b) k (obs b k) (fstL (layH b.h) k+o.at_)=some o:=by
 rw[<-m.start hk (m.ob_in hk ho)];refine M1 ho λq hq e=>m.same_at hk ho hq ?_;rw[m.start hk (m.ob_in hk ho),m.start hk (m.ob_in hk hq)]at e;omega
def LK{k:Int}{i:Nat}{o:Ob}(h:o∈obAt b k i)(hg:o.gone=true):¬(Za b i).part=k/\(ZC b i).part=k/\¬(Za b i).part=0/\o=⟨(ZC b i).at_,((ndAt b i).ptrs.length:Int)+(ndAt b i).data.length,(ndAt b i).ptrs.length,true,(adr (refB b.h (Za b i))).1⟩:=by
 grind [obAt]
def Made.gone(m:Made b x){k:Int}(hk:3<=k/\k<=4):K3 (Y4 x b) (obs b 1) (obs b k):=by
 intro o ho hg;obtain⟨i,hi,hoi⟩:=SA.1 ho;obtain⟨h1,h2,h3,rfl⟩:=LK hoi hg;obtain⟨u1,u2,u3⟩:=m.pl.here_in hi h3;have hn2:=(m.pl.old_in hi Z0).2.2.1;have hp1:(Za b i).part=1:=Z0;obtain⟨q,hq,q1,q2,q3,_⟩:=m.ob_here hi h3;rw[hp1]at hq;refine⟨q,?_,q2,q3⟩;simp only;rw[m.pl.ref_here m.lay hi h3,Sb m.lay Z0,hp1,<-q1];exact m.find Z0 hq
def Made.parts(m:Made b x):Yc (Y4 x b)=some (ptsB b):=
 Bs (m.tiles (k:=1) Z0) (m.tiles (k:=2) Z0) (m.tiles (k:=3) Z0) (m.tiles (k:=4) Z0) (m.gone Z0) (m.gone Z0)
def L3(l r:List Ob)(a:Int):tgL (l++r) a=tgL l a+tgL r a:=by simp[tgL]
def Z0K(b:Bt)(k:Int)(j:Nat)(a:Int):tgL (obAt b k j) a=if ¬(Za b j).part=k/\(ZC b j).part=k/\¬(Za b j).part=0/\(adr (refB b.h (Za b j))).1=a then 1 else 0:=by
 unfold obAt;by_cases h1:(Za b j).part=k
 ·simp_all[if_pos,if_neg,tgL]
 rw[if_neg h1];by_cases h2:(ZC b j).part=k
 ·rw[if_pos h2];by_cases h3:(Za b j).part=0
  ·simp_all[if_pos,if_neg,tgL]
  ·rw[if_neg h3];by_cases h4:(adr (refB b.h (Za b j))).1=a
   ·simp_all[if_pos,tgL]
   simp_all[if_neg,tgL]
 simp_all[if_neg,tgL]
def Made.once(m:Made b x)(hc:b.h.cycle=true){i:Nat}(hi:i<b.g.nodes.length)(hp:(Za b i).part=1):Gs (ptsB b) (fstL (layH b.h) 1+(Za b i).at_)=1:=by
 have key:∀j,j<=b.g.nodes.length->tgL ((List.range j).flatMap (obAt b 3)) (fstL (layH b.h) 1+(Za b i).at_)+tgL ((List.range j).flatMap (obAt b 4)) (fstL (layH b.h) 1+(Za b i).at_)=if i<j then 1 else 0:=by
  intro j
  induction j with
  |zero=>grind [tgL]
  |succ j ih=>
   intro hj;have ih:=ih Z0;have hjl:j<b.g.nodes.length:=Z0;rw[Z6D,Z6h,Z6h,L3,L3];simp only[Z80,List.flatMap_nil,Z5Z]
   have hone:tgL (obAt b 3 j) (fstL (layH b.h) 1+(Za b i).at_)+tgL (obAt b 4 j) (fstL (layH b.h) 1+(Za b i).at_)=if j=i then 1 else 0:=by
    rw[Z0K,Z0K];by_cases h0:(Za b j).part=0
    ·grind
    obtain⟨u1,u2,u3⟩:=m.pl.here_in hjl h0;by_cases hj1:(Za b j).part=1
    ·have ho:=m.cyc hc j hjl hj1;obtain⟨v1,_⟩:=m.pl.old_in hjl ho;have htg:(adr (refB b.h (Za b j))).1=fstL (layH b.h) 1+(Za b j).at_:=by rw[m.pl.ref_here m.lay hjl h0,Sb m.lay Z0,hj1]
     have heq:(fstL (layH b.h) 1+(Za b j).at_=fstL (layH b.h) 1+(Za b i).at_)↔j=i:=by
      constructor
      ·intro e;obtain⟨w1,w2,w3⟩:=m.pl.here_in hi Z0;rw[hj1]at u2;rw[hp]at w2;have hs1:=Q4 (ndAt b i);have hs2:=Q4 (ndAt b j);have bi:(blkB b x 1 i).length=sizN (ndAt b i):=by unfold blkB;rw[if_pos hp];exact Yr _ _ _ _
       have bj:(blkB b x 1 j).length=sizN (ndAt b j):=by unfold blkB;rw[if_pos hj1];exact Yr _ _ _ _
       by_cases hlt:j<i
       ·obtain⟨r,hr⟩:=Tk b x 1 (Z0:j+1<=i);rw[YF]at hr
        grind
       ·by_cases hgt:i<j
        ·obtain⟨r,hr⟩:=Tk b x 1 (Z0:i+1<=j);rw[YF]at hr
         grind
        ·omega
      ·simp_all
     grind
    ·have hp2:(Za b j).part=2:=Z0
     have hold:(ZC b j).part=0:=by
      by_cases h:(ZC b j).part=0
      ·exact h
      ·exact absurd hp2 (m.pl.old_in hjl h).2.2.1
     grind
   grind
 have:=key b.g.nodes.length (Z4A _);rw[if_pos hi]at this;exact this
end
end
section
section
variable {b:Bt}{x:Rw}
def Made.word(m:Made b x){k:Int}(hk:1<=k/\k<=4){i t:Nat}(hi:i<b.g.nodes.length)(ht:t< (blkB b x k i).length):(Zd (Y4 x b) k)[(cat b x k i).length+t]?=(blkB b x k i)[t]? :=by
 rw[Km m.pl hk];obtain⟨r,hr⟩:=Tk b x k (Z0:i+1<=b.g.nodes.length);simp_all[YF,Z5A,Z4S,Z7j,Z57]
def KI{p:Pl}{n:Nd}{tw:Int}{j:Nat}(hj:j<n.ptrs.length):∃q∈n.ptrs,(XE b p n tw)[1+j]?=some (UB b ⟨p.part,((p.at_.toNat+1+j:Nat):Int)⟩ q (IntKind.i64.wrap (tw+j))):=by
 refine⟨n.ptrs[j],Z4J hj,?_⟩;simp_all[XE,Z7u,Z7g,Z57,Ys]
theorem QE(h:Hp)(p:Pts)(k j:Int):Xr h p 0 k j=true:=Z4r
def Made.ptr_ok(m:Made b x)(hp:∀n∈b.g.nodes,∀q∈n.ptrs,-1<=q/\q< (b.g.nodes.length:Int)){i:Nat}(hi:i<b.g.nodes.length){k:Int}{p:Pl}(hk:p.part=k){a:Nat}{tq_ tw:Int}(hto:tq_∈(ndAt b i).ptrs)(hw:((Zd (Y4 x b) k)[a]?).getD 0=UB b ⟨p.part,(a:Int)⟩ tq_ tw):SK (Y4 x b) (ptsB b) k a=true:=by
 have hb:=hp (ndAt b i) (by simp_all[ndAt,Z4u,Z4J]) tq_ hto;unfold SK;simp only[hw];unfold UB;rw[hk];by_cases h0:tq_<0
 ·simp_all[if_pos,QE]
 obtain⟨t,rfl⟩:=Z4P (Z0:0<=tq_);have ht:t<b.g.nodes.length:=Z0;rw[if_neg h0];have g1:=m.to_here (i:=t) ht;have g2:=m.to_old (i:=t) ht;unfold Za at g1;unfold ZC at g2;simp only[Z5f];by_cases h2:2<k
 ·simp_all
 rw[if_neg h2,if_neg h2];rw[m.fill.2.2.1]
 grind
def Made.ptrs(m:Made b x)(hp:∀n∈b.g.nodes,∀q∈n.ptrs,-1<=q/\q< (b.g.nodes.length:Int)){k:Int}(hk:1<=k/\k<=4):WK (Y4 x b) (ptsB b) k=true:=by
 unfold WK;rw[Ad b hk,Z4D];intro o ho;obtain⟨i,hi,hoi⟩:=SA.1 ho;unfold Bl;rw[Z4D];intro j hj;rw[Z6x]at hj;unfold obAt at hoi;split at hoi
 ·rename_i h1;simp at hoi;subst hoi;simp only[Z5f]at hj;obtain⟨_,q2,_⟩:=m.pl.here_in hi Z0;rw[h1]at q2;have hb:blkB b x k i=XE b (Za b i) (ndAt b i) (IntKind.i64.wrap (x.slack+i)):=by unfold blkB;rw[if_pos h1]
  obtain⟨q,hq,hs⟩:=KI (b:=b) (p:=Za b i) (tw:=IntKind.i64.wrap (x.slack+i)) hj;have hw:=m.word hk hi (t:=1+j) Z3L;rw[hb,hs]at hw;simp only;refine m.ptr_ok hp hi h1 (tw:=IntKind.i64.wrap (IntKind.i64.wrap (x.slack+i)+j)) hq ?_
  grind
 rename_i h1;split at hoi
 ·rename_i h2;obtain⟨_,q2,_⟩:=m.pl.old_in hi Z0;rw[h2]at q2;split at hoi
  ·rename_i h3;simp at hoi;subst hoi;simp only[Z5f]at hj;have hb:blkB b x k i=XE b (ZC b i) (ndAt b i) 0:=by unfold blkB;rw[if_neg h1,if_pos h2,if_pos h3]
   obtain⟨q,hq,hs⟩:=KI (b:=b) (p:=ZC b i) (tw:=0) hj;have hw:=m.word hk hi (t:=1+j) Z3L;rw[hb,hs]at hw;simp only;refine m.ptr_ok hp hi h2 (tw:=IntKind.i64.wrap (0+j)) hq ?_
   grind
  ·rename_i h3;simp at hoi;subst hoi;simp only[Z5f]at hj;have hb:blkB b x k i=Tt b (Za b i) (ndAt b i):=by unfold blkB;rw[if_neg h1,if_pos h2,if_neg h3]
   have hw:=m.word hk hi (t:=1+j) (by grind [XT,sizN])
   have hz:(Tt b (Za b i) (ndAt b i))[1+j]?=some 0:=by
    unfold Tt;rw[Z7u 1 j,Z7g,List.getElem?_replicate,if_pos (by grind [sizN])]
   grind [SK,Int.toNat_natCast,cat,QE]
 grind
theorem Made.right(m:Made b x)(hp:∀n∈b.g.nodes,∀q∈n.ptrs,-1<=q/\q< (b.g.nodes.length:Int)):YC (Y4 x b)=true:=by
 have hl:=m.fill.2.1;have hlow:(Y4 x b).low.length=b.h.low.length:=by have:=Z5J Ly.low hl;simp only[layH]at this;omega
 have hhigh:(Y4 x b).high.length=b.h.high.length:=by have:=Z5J Ly.high hl;simp only[layH]at this;omega
 have hold:(Y4 x b).old.length=b.h.old.length:=by have:=Z5J Ly.old hl;simp only[layH]at this;omega
 have hfar:(Y4 x b).far.length=b.h.far.length:=by have:=Z5J Ly.far hl;simp only[layH]at this;omega
 have hcap:(Y4 x b).cap=b.h.cap:=Z5J Ly.cap hl;refine BD ?_ m.parts ?_
 ·unfold numR;have hs:=m.scan;have hrl:=m.pl.ok.rl;have hro:(Y4 x b).roots.length<=5:=by simp only[Y4,Z56];exact hrl
  rw[hl,m.lay,m.fill.2.2.1,m.fill.2.2.2,hlow,hold,hfar]
  grind
 ·unfold TP;simp only[Z4x,Z4N];refine⟨⟨⟨⟨⟨⟨?_,?_⟩,m.ptrs hp Z0⟩,m.ptrs hp Z0⟩,m.ptrs hp Z0⟩,m.ptrs hp Z0⟩,?_⟩
  ·rw[m.fill.2.2.2];cases hc:b.h.cycle
   ·rfl
   ·simp only[Z7d,Z6X,Z4D];intro o ho;obtain⟨i,hi,hoi⟩:=SA.1 ho
    have h1:(Za b i).part=1/\o.at_=(Za b i).at_:=by
     unfold obAt at hoi;split at hoi
     ·simp_all
     split at hoi
     ·rename_i h2;have:=(m.pl.old_in hi Z0).1;omega
     grind
    have hin:=m.ob_in (k:=1) Z0 ho;unfold tgOk;rw[m.start Z0 hin,h1.2,Z4N];exact m.once hc hi h1.1
  ·rw[Z4D];intro w hw;simp only[Y4,Z4I]at hw;obtain⟨r,hr,rfl⟩:=hw;have hrl:=m.pl.ok.rts r hr;by_cases h0:0<=r
   ·rw[if_pos h0];have hlk:=yu (x:=x) m.pl.ok b.g.nodes.length (Z4A _);rw[Jh hlk];obtain⟨t,rfl⟩:=Z4P h0;exact m.to_here (i:=t) Z0
   simp_all[if_neg,QE]
  ·rw[hlow,hhigh,hcap];exact m.room
end
end
section
def L5(l r:List Ob):wtL (l++r)=wtL l+wtL r:=by simp[wtL]
section
variable {x:Rw}{c:Bool}
def Z0U{b:Bt}(hpl:Placed b x){i:Nat}(hi:i<b.g.nodes.length):wtL (obAt b 3 i)+wtL (obAt b 4 i)=if(Za b i).part=0 then sizN (ndAt b i)else 0:=by
 have hz:((1:Nat)+(((ndAt b i).ptrs.length:Int)+(ndAt b i).data.length).toNat)=sizN (ndAt b i):=by unfold sizN;omega
 obtain⟨h1,k,hk,hok⟩|⟨h1,_⟩:=hpl.here i hi
 ·have h0:(Za b i).part=0:=by rw[h1]
  rw[if_pos h0];obtain rfl|rfl:=hk<;>simp[obAt,h0,hok,wtL,wtO,hz]
 ·have e0:¬(Za b i).part=0:=Z0;have e3:¬(Za b i).part=3:=Z0;have e4:¬(Za b i).part=4:=Z0
  have:∀k:Int,¬(Za b i).part=k->wtL (obAt b k i)=0:=λk hk=>by
   unfold obAt;rw[if_neg hk,if_neg e0];split<;>simp[wtL,wtO]
  rw[if_neg e0,this 3 e3,this 4 e4]
def GK(hx:x.ok):∀j,j<=(mkG x.nodes x.roots).nodes.length->wtL ((List.range j).flatMap (obAt (Zy x c) 3))+wtL ((List.range j).flatMap (obAt (Zy x c) 4))=(stN x c (mkG x.nodes x.roots) j).wt
 |0,_=>rfl
 |j+1,hj=>by
  have ih:=GK hx j Z0;have h1:=Z0U (Rp (c:=c) hx) (i:=j) (by rw[Wl];omega);rw[QG Z0]at h1;have hn:ndAt (Zy x c) j=((mkG x.nodes x.roots).nodes[j]?).getD default:=rfl;rw[hn]at h1;rw[Z6D,Z6h,Z6h,L5,L5,stN];simp only[Z80,List.flatMap_nil,Z5Z];generalize ((mkG x.nodes x.roots).nodes[j]?).getD default=n at*;unfold jr at h1;simp only[ZV];obtain h0|h0|⟨h0,rfl⟩:=YU x j c
  ·simp[h0]at h1⊢;omega
  ·simp[h0]at h1⊢;omega
  ·simp[h0]at h1⊢;omega
def HQ(x:Rw)(c:Bool):∀n∈(Zy x c).g.nodes,∀q∈n.ptrs,-1<=q/\q< ((Zy x c).g.nodes.length:Int):=by
 rw[Wl];exact Fd x.nodes x.roots
def n9(hc:c=false):∀j,(stN x c (mkG x.nodes x.roots) j).n3=0/\(stN x c (mkG x.nodes x.roots) j).n4=0
 |0=>⟨rfl,rfl⟩
 |j+1=>by
  have:=n9 hc j;subst hc;simpa[stN,ZV]using this
def made(hx:x.ok)(hc:c=true->(Zy x true).h.low.length≠0):Made (Zy x c) x:=by
 obtain⟨k1,k2,k3⟩:=S3 hx c;refine⟨Rp hx,k3,?_,?_,?_,?_,k2⟩
 ·rw[Wl];exact sz9 x
 ·intro hcy i hi h1;have hct:c=true:=hcy;subst hct;rw[Wl]at hi;rw[QG hi]at h1;rw[Bo hi];unfold jr at h1;unfold oldF;obtain h0|h0|⟨h0,_⟩:=YU x i true
  ·simp[h0]at h1
  ·simp[h0];cases clsF x i<;>simp
  ·simp[h0]at h1
 ·have hlow:(Zy x c).h.low.length=(stN x c (mkG x.nodes x.roots) (mkG x.nodes x.roots).nodes.length).n1:=by simp[Zy]
  cases c
  ·obtain⟨e3,e4⟩:=n9 (x:=x) (c:=false) rfl (mkG x.nodes x.roots).nodes.length;rw[hlow];have hs:(Zy x false).h.scan=((stN x false (mkG x.nodes x.roots) (mkG x.nodes x.roots).nodes.length).n1:Int):=by simp[Zy]
   have hcy:(Zy x false).h.cycle=false:=rfl;rw[hs,hcy];simp only[Z4G,Z5h];refine⟨Z0,Z0,trivial,?_,?_⟩<;>simp[Zy,e3,e4]
  ·have h0:=hc rfl;rw[hlow]at h0;rw[hlow]
   have hs:(Zy x true).h.scan=pick x.scan (stN x true (mkG x.nodes x.roots) (mkG x.nodes x.roots).nodes.length).n1:=by
    simp only[Zy];rw[if_pos ⟨trivial,Z0⟩]
   have hcy:(Zy x true).h.cycle=true:=rfl;have hp:=Xw (c:=x.scan) (n:=((stN x true (mkG x.nodes x.roots) (mkG x.nodes x.roots).nodes.length).n1:Int)) Z0;rw[hs,hcy];simp only[Z5b];omega
 ·have hw:=GK (c:=c) hx (mkG x.nodes x.roots).nodes.length (Z4A _);have hl:(Zy x c).h.low.length=(stN x c (mkG x.nodes x.roots) (mkG x.nodes x.roots).nodes.length).n1:=by simp[Zy]
  have hh:(Zy x c).h.high.length=(stN x c (mkG x.nodes x.roots) (mkG x.nodes x.roots).nodes.length).n2:=by simp[Zy]
  have hcap:(Zy x c).h.cap=max (((stN x c (mkG x.nodes x.roots) (mkG x.nodes x.roots).nodes.length).n1:Int)+(stN x c (mkG x.nodes x.roots) (mkG x.nodes x.roots).nodes.length).n2+(stN x c (mkG x.nodes x.roots) (mkG x.nodes x.roots).nodes.length).wt) (((stN x c (mkG x.nodes x.roots) (mkG x.nodes x.roots).nodes.length).n3:Int)+(stN x c (mkG x.nodes x.roots) (mkG x.nodes x.roots).nodes.length).n4)+pick x.slack 12:=rfl;have hp:=Xw (c:=x.slack) (n:=12) Z0;unfold obs;rw[Wl,hw,hl,hh,hcap];omega
def Cj(hx:x.ok):∃c,So x=Y4 x (Zy x c)/\Made (Zy x c) x:=by
 unfold So;by_cases h:(Zy x true).h.low.length=0
 ·rw[if_pos h];exact⟨false,rfl,made hx Z1⟩
 ·rw[if_neg h];exact⟨true,rfl,made hx λ_=>h⟩
def jp(hx:x.ok):YC (So x)=true:=by
 obtain⟨c,h,m⟩:=Cj hx;rw[h];exact m.right (HQ x c)
end
end
section
def NG(l:List Nd):NoM (.sl (l.map ndV)):=by
 have h:=Rf ⟨l,[]⟩;unfold grV at h;cases h with
 |agg _ h=>exact h _ Z1
def p8(x:Rw):NoM (rwV x):=.agg _ λc hc=>by
 simp only[Z4H,Z5t,Z6u]at hc;obtain rfl|rfl|rfl|rfl|rfl|rfl|rfl:=hc
 all_goals first|exact .int _ _|exact NG _|exact Z2b _
def GS{x:Rw}(hx:x.ok):VC (bes Try.prog) 16 false [rwV x] (hpV (So x)):=up (MF hx) (nom1 (p8 x)) (KP _)
section
variable {h:Hp}{p:Pts}
def Rt.vg_right(r:Rt h p):Vm.right (vg h)=true:=r.view_right r.nroots r.roots
def Rt.ofG(r:Rt h p):ofG h=(ZT (vg h),0):=if_pos ⟨r.right,r.vg_right⟩
end
instance fitViewLive:FitF (bes Try.prog) 4:=Qz (P:=Try.prog) Try.func4 rfl Z2
end
section
def KZ{gone:Bool}{ptrs:Int}:∀ {l:List Int} {i:Nat},ZO l gone ptrs i=true->∀(j:Nat) (w:Int),l[j]?=some w->(gone=true->w=0)/\(((i+j:Nat):Int)<ptrs->RC w=true)
 | [],_,_,j,w,hw=>by simp at hw
 |y::l,i,hs,j,w,hw=>by
  simp only[ZO,Z4x]at hs;cases j with
  |zero=>
   simp at hw;subst hw;obtain⟨⟨h1,h2⟩,_⟩:=hs;refine⟨λhg=> ?_,λhp=> ?_⟩
   ·rw[hg]at h1;simpa using h1
   ·simpa[show(i:Int)<ptrs by omega]using h2
  |succ j=>
   have:=KZ hs.2 j w (by simpa using hw);rw[show i+1+j=i+(j+1)by omega]at this;exact this
def Stands.congr{ws ws':List Int}{old:Bool}{o:Ob}(s:Stands ws old o)(hl:ws'.length=ws.length)(h0:ws'[o.at_.toNat]?=ws[o.at_.toNat]?)
  (h1:∀j:Nat,(j:Int)<o.size->ws'[o.at_.toNat+1+j]?=ws[o.at_.toNat+1+j]? \/(o.gone=false/\o.ptrs<=j)):Stands ws' old o:=by
 refine⟨s.nat,s.shape,by rw[hl];exact s.fits,Us λj w hw=> ?_,by rw[h0];exact s.word⟩
 have hlt:j<o.size.toNat:=by
  have:=(Z4v.1 hw).1;simp at this;omega
 rw[Z6B hlt,Z5d]at hw;obtain h1|⟨hg,hp⟩:=h1 j Z0
 ·rw[h1]at hw;refine KZ s.slots j w ?_;rw[Z6B hlt,Z5d];exact hw
 ·exact⟨λh=>(by rw[hg]at h;cases h),λh=>Z0⟩
def Tiles.congr{ws ws':List Int}{old:Bool}:∀ {a:Nat} {l:List Ob},Tiles ws old a l->ws'.length=ws.length->(∀o∈l,Stands ws' old o)->Tiles ws' old a l
 |a,[],h,hl,_=>by show ws'.length<=a;rw[hl];exact h
 |a,o::l,h,hl,hs=>⟨h.1,hs o (.head _),Tiles.congr h.2.2 hl λx hx=>hs x (.tail _ hx)⟩
section
variable {h g:Hp}{p:Pts}
def qY(hl:layH g=layH h){w i j:Int}:Gos g p w i j↔Gos h p w i j:=by
 unfold Gos;rw[hl]
def Dz(hl:layH g=layH h)(hs:g.scan=h.scan){k:Int}{i:Nat}{w:Int}:Qd g p k i w↔Qd h p k i w:=by
 unfold Qd;rw[qY hl,qY hl,hs]
def Rt.congr(r:Rt h p)(hl:layH g=layH h)(hs:g.scan=h.scan)(hc:g.cycle=h.cycle)(hr:g.roots=h.roots)(h1:∀k:Int,1<=k/\k<=4->∀o∈p.at k,Stands (Zd g k) (decide (2<k)) o)
  (h2:∀k:Int,1<=k/\k<=4->∀o∈p.at k,o.gone=false->∀j:Nat,(j:Int)<o.ptrs->(Zd g k)[o.at_.toNat+1+j]?=(Zd h k)[o.at_.toNat+1+j]?):Rt g p:=by
 have e:=VN hl;have e1:g.low.length=h.low.length:=e 1;have e2:g.high.length=h.high.length:=e 2;have e3:g.old.length=h.old.length:=e 3;have e4:g.far.length=h.far.length:=e 4;have ec:g.cap=h.cap:=Z5J Ly.cap hl;refine⟨⟨⟨by rw[hl];exact r.lay,λk hk=>(r.tiles k hk).congr (e k) (h1 k hk)⟩,?_,?_,?_⟩,by rw[hr];exact r.nroots,by rw[hs];exact r.scan0,by rw[hs,e1];exact r.scanL,λh=>by rw[hs,e1];exact r.cyc (hc▸h),λh=> ?_,λh=> ?_,λw hw=> ?_⟩
 ·rw[hl];exact r.gone
 ·intro k hk o ho hg j hj w hw;rw[h2 k hk o ho hg j hj]at hw;exact(Dz hl hs).2 (r.ptr k hk o ho hg j hj w hw)
 ·rw[e1,e2,ec];exact r.room
 ·obtain⟨q1,q2,q3⟩:=r.rest (hc▸h);rw[hs,e1];rw[q2]at e3;rw[q3]at e4;exact⟨q1,Z5V.1 e3,Z5V.1 e4⟩
 ·rw[hl];exact r.once (hc▸h)
 ·rw[hr]at hw;exact(qY hl).2 (r.roots w hw)
structure Scal (h:Hp) (p:Pts) (k:Int) (l:List Int):Prop where
 len:l.length=(Zd h k).length
 u:∀w∈l,U64 w
 eq:∀i:Nat,l[i]?=(Zd h k)[i]? \/∃o∈p.at k,o.gone=false/\o.at_+1+o.ptrs<=i/\i<o.at_+1+o.size
def Scal.set{k:Int}{l:List Int}(s:Scal h p k l){o:Ob}(ho:o∈p.at k)(hg:o.gone=false){i:Nat}(h1:o.at_+1+o.ptrs<=i)(h2:i<o.at_+1+o.size){w:Int}(hw:U64 w):Scal h p k (l.set i w):=by
 refine⟨by rw[Z6C];exact s.len,λv hv=> ?_,λj=> ?_⟩
 ·obtain hv|rfl:=Z5z hv
  ·exact s.u v hv
  ·exact hw
 ·by_cases hj:i=j
  ·subst hj;exact .inr ⟨o,ho,hg,h1,h2⟩
  ·rw[Z7x hj];exact s.eq j
theorem Scal.here(t:Tld h p){k:Int}(hk:1<=k/\k<=4){l:List Int}(s:Scal h p k l){o:Ob}(ho:o∈p.at k){j:Nat}(hj:(j:Int)<=o.size)(hp:(j:Int)<=o.ptrs\/o.gone=true):l[o.at_.toNat+j]?=(Zd h k)[o.at_.toNat+j]? :=by
 obtain e|⟨q,hq,hg,h1,h2⟩:=s.eq (o.at_.toNat+j)
 ·exact e
 ·obtain⟨a,n,m,ea,en,em,_⟩:=t.ob hk ho;obtain⟨b,n',m',eb,en',em',_⟩:=t.ob hk hq;rcases(t.tiles k hk).apart o ho q hq with e|e|e
  ·subst e;obtain hp|hp:=hp
   ·omega
   ·rw[hg]at hp;cases hp
  ·omega
  ·omega
def Rt.scal(r:Rt h p){k:Int}(hk:1<=k/\k<=4){l:List Int}(s:Scal h p k l):Rt (Xa h k l) p:=by
 have hp:=λ{j:Int} (hj:1<=j/\j<=4)=>WJ (h:=h) hk hj l;refine r.congr (S6 s.len) (Uw h k l).1 (Uw h k l).2 ?_ ?_ ?_
 ·unfold Xa;split
  ·rfl
  split
  ·rfl
  split<;>rfl
 ·intro j hj o ho;have hs:=((r.tiles j hj).stands o ho).1;rw[hp hj];by_cases e:j=k
  ·subst e;rw[if_pos rfl];refine hs.congr s.len ?_ λi hi=> ?_
   ·obtain⟨a,n,m,ea,en,em,_⟩:=r.toTld.ob hj ho;simpa using s.here r.toTld hj ho (j:=0) Z0 (.inl Z0)
   ·by_cases hg:o.gone=true
    ·exact .inl (by rw[Z61];exact s.here r.toTld hj ho Z0 (.inr hg))
    ·by_cases hi2:(i:Int)<o.ptrs
     ·exact .inl (by rw[Z61];exact s.here r.toTld hj ho Z0 (.inl Z0))
     ·exact .inr ⟨by simpa using hg,Z0⟩
  ·rw[if_neg e];exact hs
 ·intro j hj o ho hg i hi;rw[hp hj];by_cases e:j=k
  ·subst e;rw[if_pos rfl,Z61];obtain⟨a,n,m,ea,en,em,_⟩:=r.toTld.ob hj ho;exact s.here r.toTld hj ho Z0 (.inl Z0)
  ·rw[if_neg e]
end
end
end Vm
end
section

end
section

end
section
namespace Vm
open Go Go.Proofs
structure Ac where
 kind:Int
 r:Int
 s:Int
 i:Int
 size:Int
 ptrs:Int
 v:Int
 deriving DecidableEq,Inhabited
def acV(a:Ac):V:=.agg [vi a.kind,vi a.r,vi a.s,vi a.i,vi a.size,vi a.ptrs,vu a.v]
@[simp]def Z2w(a:Ac):szV (acV a) 7=some (acV a):=rfl
@[simp]def Pg(a:Ac):fldV (acV a) 0=some (vi a.kind):=rfl
@[simp]def Pi(a:Ac):fldV (acV a) 1=some (vi a.r):=rfl
@[simp]def Pj(a:Ac):fldV (acV a) 2=some (vi a.s):=rfl
@[simp]def Pk(a:Ac):fldV (acV a) 3=some (vi a.i):=rfl
@[simp]def Pm(a:Ac):fldV (acV a) 4=some (vi a.size):=rfl
@[simp]def Pn(a:Ac):fldV (acV a) 5=some (vi a.ptrs):=rfl
@[simp]def Po(a:Ac):fldV (acV a) 6=some (vu a.v):=rfl
@[simp]def OP(a:Ac):(acV a).cells=[vi a.kind,vi a.r,vi a.s,vi a.i,vi a.size,vi a.ptrs,vu a.v]:=rfl
def isRt(g:Gr)(r:Int):Bool:=decide (0<=r)&&decide (r<g.roots.length)
def J0(g:Gr)(a:Ac):Bool:=
 if a.kind=1\/a.kind=7 then isRt g a.r else if a.kind=3\/a.kind=5 then isRt g a.s else if a.kind=2\/a.kind=4\/a.kind=6 then isRt g a.r&&isRt g a.s else false
def rt(g:Gr)(s:Int):Int:=(g.roots[s.toNat]?).getD (-1)
def YP(g:Gr)(r x:Int):Gr:=⟨g.nodes,g.roots.set r.toNat x⟩
def Gt(g:Gr)(i:Int)(n:Nd):Gr:=⟨g.nodes.set i.toNat n,g.roots⟩
def N9(size ptrs:Int):Nd:=⟨List.replicate ptrs.toNat (-1),List.replicate (size-ptrs).toNat 0⟩
def ID(g:Gr)(a:Ac):Int×Gr×Int:=
 let at_:=rt g a.s
 if at_<0 then(0,noGr,6)else
 let n:=(g.nodes[at_.toNat]?).getD default
 let many:Nat:=if a.kind=3\/a.kind=5 then n.data.length else n.ptrs.length
 if a.i<0\/(many:Int)<=a.i then(0,noGr,1)else
 if a.kind=2 then(0,YP g a.r ((n.ptrs[a.i.toNat]?).getD 0),0)else
 if a.kind=3 then((n.data[a.i.toNat]?).getD 0,g,0)else
 if a.kind=4 then(0,Gt g at_ ⟨n.ptrs.set a.i.toNat (rt g a.r),n.data⟩,0)else
 (0,Gt g at_ ⟨n.ptrs,n.data.set a.i.toNat a.v⟩,0)
def doR(g:Gr)(a:Ac):Int×Gr×Int:=
 if right g&&J0 g a then
  if a.kind=1 then(if Zo a.size a.ptrs then(0,⟨g.nodes++[N9 a.size a.ptrs],g.roots.set a.r.toNat g.nodes.length⟩,0)else(0,noGr,1))
  else if a.kind=6 then(0,YP g a.r (rt g a.s),0)
  else if a.kind=7 then(0,YP g a.r (-1),0)
  else ID g a
 else(0,noGr,1)
def doV(x:Int×Gr×Int):V:=.tup [vu x.1,grV x.2.1,vi x.2.2]
def LD{g:Gr}{r:Int}:isRt g r=true↔0<=r/\r<g.roots.length:=by simp[isRt]
end Vm
namespace Vm
open Go Go.Proofs
end Vm
end
section
namespace Vm
open Go Go.Proofs
section
def T6{g:Gr}(hr:right g=true)(k:Int):right (YP g k (-1))=true:=by
 simp only[right,Z4x,Z4D,Z4N,YP]at hr⊢;refine⟨⟨by simpa using hr.1.1,hr.1.2⟩,λx hx=> ?_⟩;obtain h|rfl:=Z5z hx
 ·exact hr.2 x h
 ·simp[inR];omega
def Fy{g h:Gr}(hr:right g=true)(hn:h.nodes=g.nodes)(hro:∀x∈h.roots,0<=x->x∈order g):∀x∈order h,x∈order g:=by
 have key:∀(F i:Nat) (l:List Int),(∀x∈l,x∈order g)->∀x∈Y8 h F i l,x∈order g:=by
  intro F
  induction F with
  |zero=>intro i l hl;exact hl
  |succ F ih=>
   intro i l hl;simp only[Y8];cases hx:l[i]? with
   |none=>exact hl
   |some y=>
    refine ih _ _ λz hz=> ?_;obtain h1|⟨h1,h0⟩:=X0.1 hz
    ·exact hl z h1
    ·rw[hn]at h1;exact LG hr (hl y (Z4B hx)) h1 h0
 exact key _ _ _ λx hx=>by
  obtain h1|⟨h1,h0⟩:=X0.1 hx
  ·cases h1
  ·exact hro x h1 h0
def BZ{g:Gr}(hr:right g=true)(k:Int):zw (ZT (YP g k (-1))) (YP (ZT g) k (-1))=true:=by
 have h1:=T6 hr k;have h2:=T6 (Vk hr) k
 have hsub:=Fy (g:=g) (h:=YP g k (-1)) hr rfl λx hx h0=>by
  obtain h|rfl:=Z5z hx
  ·exact WF hr h h0
  ·omega
 have he:ZT (YP (ZT g) k (-1))=ZT (YP g k (-1)):=by
  refine(zH h1 h2 (XA g) (by simp[XA]) (λx hx y hy=>JB hr x (hsub x hx) y (hsub y hy)) (λx hx=> ?_) ?_ λx hx=> ?_).2
  ·unfold XA;rw[if_pos ((Yu hr).2 x (hsub x hx)).1];exact(UM (hsub x hx)).1
  ·show(YM (order g) g.roots).set k.toNat (-1)=(g.roots.set k.toNat (-1)).map (XA g);rw[Z6f];rfl
  ·have h0:=((Yu hr).2 x (hsub x hx)).1;have:(XA g x)=at0 (order g) x:=if_pos h0;rw[this];simp only[YP,ZT,Z4M,(UM (hsub x hx)).2.2,Z4K];rfl
 simp[zw,Vk h1,h2,ja h1,he]
def Only(c g:List Nd)(P Q:Nat):Prop:=c.length=g.length/\∀(i:Nat) (m n:Nd),c[i]?=some m->g[i]?=some n->m.data.length=n.data.length/\∀(j:Nat) (u v:Int),m.data[j]?=some u->n.data[j]?=some v->u≠v->i=P/\j=Q
def jZ{g h:Gr}(ho:∀x,outs h x=outs g x):∀(F i:Nat) (l:List Int),Y8 h F i l=Y8 g F i l:=by
 intro F
 induction F with
 |zero=>intro i l;rfl
 |succ F ih=>
  intro i l;simp only[Y8];cases l[i]? with
  |none=>rfl
  |some x=>
   have:=ho x;simp only[outs]at this;simp only[this,ih]
def C7{g c:Gr}(hr:right g=true)(hro:c.roots=g.roots)(hp:∀(i:Nat) (m n:Nd),c.nodes[i]?=some m->g.nodes[i]?=some n->m.ptrs=n.ptrs){P Q:Nat}(h:Only c.nodes g.nodes P Q):∃P Q,Only (ZT c).nodes (ZT g).nodes P Q:=by
 have hnode:∀x:Nat,x<g.nodes.length->∃m n,c.nodes[x]?=some m/\g.nodes[x]?=some n:=λx hx=>⟨_,_,Z4u (by rw[h.1];exact hx),Z4u hx⟩
 have ho:∀x,outs c x=outs g x:=λx=>by
  unfold outs;by_cases hx:x.toNat<g.nodes.length
  ·obtain⟨m,n,h1,h2⟩:=hnode _ hx;rw[h1,h2];exact hp _ _ _ h1 h2
  ·rw[Z5w (l:=c.nodes) (by have:=h.1;omega),Z5w (l:=g.nodes) Z0]
 have hord:order c=order g:=by
  unfold order;rw[jZ ho,h.1,hro]
 have hgood:=Yu hr
 obtain⟨P',hP⟩:∃P':Nat,∀i:Nat,(order g)[i]?=some (P:Int)->i=P':=by
  by_cases he:∃i:Nat,(order g)[i]?=some (P:Int)
  ·obtain⟨i,hi⟩:=he;refine⟨i,λj hj=> ?_⟩;obtain⟨i1,i2⟩:=Z4v.1 hi;obtain⟨j1,j2⟩:=Z4v.1 hj;have hn:=Z7W.1 hgood.1;obtain hl|hl|hl:=Z84 j i
   ·exact(hn j i j1 i1 hl (j2.trans i2.symm)).elim
   ·exact hl
   ·exact(hn i j i1 j1 hl (i2.trans j2.symm)).elim
  ·exact⟨0,λi hi=>(he ⟨i,hi⟩).elim⟩
 refine⟨P',Q,by simp[ZT,hord],λi m n hm hn=> ?_⟩;simp only[ZT,hord,Z4M]at hm hn;cases hx:(order g)[i]? with
 |none=>rw[hx]at hm;cases hm
 |some x=>
  rw[hx]at hm hn;cases hm;cases hn;obtain⟨x0,x1⟩:=hgood.2 _ (Z4B hx);obtain⟨m,n,h1,h2⟩:=hnode x.toNat Z0;obtain⟨d1,d2⟩:=h.2 _ _ _ h1 h2;simp only[Vy,h1,h2,Z4W];refine⟨d1,λj u v hu hv hne=> ?_⟩;obtain⟨e1,e2⟩:=d2 j u v hu hv hne;exact⟨hP i (by rw[hx];congr 1;omega),e2⟩
section
variable {h:Hp}{p:Pts}
def Hg(r:Rt h p){q q':Nat}(hq:q<4)(hq':q'<4){o o':Ob}(ho:o∈obP h q)(ho':o'∈obP h q')(hne:q≠q'\/o.at_≠o'.at_):(foP h q o).ad≠(foP h q' o').ad:=by
 intro e;rw[QC r hq ho,QC r hq' ho']at e;rw[r.obQ hq]at ho;rw[r.obQ hq']at ho';obtain⟨e1,e2⟩:=r.toTld.inj Z0 Z0 ho ho' (by unfold refR;omega);obtain hne|hne:=hne
 ·omega
 ·rw[e2]at hne;exact hne rfl
def B6(r:Rt h p):∀n q,q+n<=4->(fos h n q).Pairwise λf g=>f.ad≠g.ad
 |0,q,_=>.nil
 |n+1,q,hq=>by
  simp only[fos];refine List.pairwise_append.2 ⟨?_,B6 r n (q+1) Z0,λf hf g hg=> ?_⟩
  ·rw[List.pairwise_map];have hp:=(r.tiles ((q:Int)+1) Z0).pairwise;rw[<-r.obQ Z0]at hp;exact hp.imp_of_mem λha hb hlt=>Hg r Z0 Z0 ha hb (.inr Z0)
  ·obtain⟨o,ho,rfl⟩:=Z4I.1 hf;obtain⟨k,o',h1,h2,ho',rfl⟩:=Sm hg;exact Hg r Z0 Z0 ho ho' (.inl Z0)
def NH(r:Rt h p){i j:Nat}{f g:Fo}(hi:(Yk h).ns[i]?=some f)(hj:(Yk h).ns[j]?=some g)(e:f.ad=g.ad):i=j:=by
 have hn:(Yk h).ns.Pairwise λf g=>f.ad≠g.ad:=by
  rw[Az];exact(B6 r 4 0 Z0).filter _
 have hn:=Z7W.1 hn;obtain⟨i1,i2⟩:=Z4v.1 hi;obtain⟨j1,j2⟩:=Z4v.1 hj;obtain hl|hl|hl:=Z84 j i
 ·exact(hn j i j1 i1 hl (by rw[i2,j2,e])).elim
 ·exact hl.symm
 ·exact(hn i j i1 j1 hl (by rw[i2,j2,e])).elim
end
def Ej{φ:Fo->Fo}(h1:∀f,(φ f).ob=f.ob/\(φ f).ad=f.ad):∀(l:List Fo) (s:Vw),(l.map φ).foldl Vw.put {s with ns:=s.ns.map φ}= {l.foldl Vw.put s with ns:=(l.foldl Vw.put s).ns.map φ}
 | [],s=>rfl
 |f::l,s=>by
  rw[Z4T,Z6i,Z6i,<-Ej h1 l];congr 1;obtain⟨e1,e2⟩:=h1 f;cases hg:f.ob.gone<;>simp[Vw.put,e1,e2,hg]
def GD{h g:Hp}{φ:Fo->Fo}(h1:∀f,(φ f).ob=f.ob/\(φ f).ad=f.ad)(hf:fos g 4 0=(fos h 4 0).map φ):Yk g= {Yk h with ns:=(Yk h).ns.map φ}:=by
 unfold Yk;rw[hf];exact Ej h1 _ ⟨[],[],[]⟩
def jk{h g:Hp}{φ:Fo->Fo}(ho:∀q,q<4->obP g q=obP h q)(hf:∀q,q<4->∀o∈obP h q,foP g q o=φ (foP h q o)):∀n q,q+n<=4->fos g n q=(fos h n q).map φ
 |0,q,_=>rfl
 |n+1,q,hq=>by
  simp only[fos,Z5F,Z6F];rw[jk ho hf n (q+1) Z0,ho q Z0];congr 1;exact Z6J λo h=>hf q Z0 o h
section
variable {h:Hp}{p:Pts}
def U1(h:Hp)(k:Int)(o:Ob)(x:Int):Hp:=Xa h k ((Zd h k).set (o.at_+1+o.ptrs).toNat x)
def Gb(r:Rt h p){k:Int}(hk:1<=k/\k<=2){o:Ob}(ho:o∈p.at k)(hps:o.ptrs<o.size){x:Int}(hx:U64 x)(hu:∀w∈Zd h k,U64 w):Rt (U1 h k o x) p:=by
 obtain⟨a,n,m,ea,en,em,_⟩:=r.toTld.ob Z0 ho
 have hg:o.gone=false:=by
  obtain⟨q,rfl,hq⟩:∃q:Nat,k=(q:Int)+1/\q<2:=⟨(k-1).toNat,Z0,Z0⟩;exact r.live12 hq (by rw[r.obQ Z0];exact ho)
 have s0:Scal h p k (Zd h k):=⟨rfl,hu,λi=>.inl rfl⟩;exact r.scal Z0 (s0.set ho hg (i:=(o.at_+1+o.ptrs).toNat) Z0 Z0 hx)
def Gd(r:Rt h p){k:Int}(hk:1<=k/\k<=2){o:Ob}(ho:o∈p.at k)(hps:o.ptrs<o.size){x:Int}(hx:U64 x)(hu:∀w∈Zd h k,U64 w):
  ∃A,Yk (U1 h k o x)= {Yk h with ns:=(Yk h).ns.map λf=>if f.ad=A then⟨f.ob,f.ad,f.sl.set f.ob.ptrs.toNat x⟩else f}:=by
 have rg:=Gb r hk ho hps hx hu;obtain⟨q,rfl,hq⟩:∃q:Nat,k=(q:Int)+1/\q<2:=⟨(k-1).toNat,Z0,Z0⟩;have hoq:o∈obP h q:=by rw[r.obQ Z0];exact ho
 obtain⟨a,n,m,ea,en,em,hal,hn5,hmn⟩:=r.toTld.ob Z0 ho;have hS:(o.at_+1+o.ptrs).toNat=a+1+m:=Z0;have hlay:layH (U1 h ((q:Int)+1) o x)=layH h:=S6 (by rw[Z6C])
 have hls:∀q':Nat,q'<4->lsH (U1 h ((q:Int)+1) o x) q'=if q'=q then(lsH h q').set (a+1+m) x else lsH h q':=λq' hq'=>by
  rw[<-Vd _ hq',<-Vd _ hq'];unfold U1;rw[WJ Z0 Z0,hS];by_cases e:q'=q
  ·subst e;rw[if_pos rfl,if_pos rfl]
  ·rw[if_neg Z0,if_neg e]
 refine⟨(foP h q o).ad,GD (λf=>by split<;>exact⟨rfl,rfl⟩) (jk (λq' hq'=>by rw[rg.obQ hq',r.obQ hq']) (λq' hq' o' ho'=> ?_) 4 0 Z0)⟩;have had:(foP (U1 h ((q:Int)+1) o x) q' o').ad=(foP h q' o').ad:=by simp only[foP,hlay]
 have hob:(foP h q' o').ob=o':=rfl;obtain⟨a',n',m',ea',en',em',hal',hn5',hmn'⟩:=r.ob4 hq' ho';have e1:(o'.at_+1).toNat=a'+1:=Z0;have e2:o'.size.toNat=n':=Z0;by_cases hqq:q'=q
 ·subst hqq;by_cases hoo:o'=o
  ·subst hoo;have:a'=a:=Z0;subst this;rw[if_pos rfl];have e3:o'.ptrs.toNat=m:=Z0;simp only[foP,hlay,hls _ hq',Z5b,e1,e2,e3,List.drop_set,List.take_set];rw[if_neg Z0];simp only[List.take_set,show a'+1+m- (a'+1)=m by omega]
  ·rw[if_neg (Hg r hq' hq' ho' hoq (.inr λe=>hoo (by
    rw[r.obQ hq']at ho' hoq;exact r.toTld.same_at (k:=(q':Int)+1) Z0 hoq ho' e)))]
   simp only[foP,hlay,hls _ hq',Z5b,e1,e2];congr 1
   have hap:a'+1+n'<=a+1+m\/a+1+m<a'+1:=by
    rw[r.obQ hq']at ho' hoq;rcases(r.tiles ((q':Int)+1) Z0).apart o' ho' o hoq with e|e|e
    ·exact(hoo e).elim
    ·omega
    ·omega
   refine Z6Z λi=> ?_;simp only[Z55,Z5d,Z81];split
   ·rw[if_neg Z0]
   ·rfl
 ·rw[if_neg (Hg r hq' Z0 ho' hoq (.inl hqq))];simp only[foP,hlay,hls _ hq',if_neg hqq]
def Ga(r:Rt h p){k:Int}(hk:1<=k/\k<=2){o:Ob}(ho:o∈p.at k)(hps:o.ptrs<o.size){x:Int}(hx:U64 x)(hu:∀w∈Zd h k,U64 w):∃P Q,Only (ZT (vg (U1 h k o x))).nodes (ZT (vg h)).nodes P Q:=by
 obtain⟨A,hv⟩:=Gd r hk ho hps hx hu
 have hroots:(U1 h k o x).roots=h.roots:=by
  unfold U1 Xa;split
  ·rfl
  split
  ·rfl
  split<;>rfl
 have hnode:∀(i:Nat) (m n:Nd),(vg (U1 h k o x)).nodes[i]?=some m->(vg h).nodes[i]?=some n->∃f,(Yk h).ns[i]?=some f/\n=ndF (Yk h) f/\m=(if f.ad=A then⟨n.ptrs,n.data.set 0 x⟩else n):=by
  intro i m n hm hn;unfold vg at hm hn;rw[hv]at hm;simp only[Vw.gr,Z6F,Z4M]at hm hn;cases hf:(Yk h).ns[i]? with
  |none=>rw[hf]at hn;cases hn
  |some f=>
   rw[hf]at hm hn;cases hm;cases hn;refine⟨f,rfl,rfl,?_⟩;dsimp only[Function.comp_apply];split
   ·simp only[ndF,List.take_set_of_le (Z4A _),List.drop_set,if_neg (Nat.lt_irrefl _),Z6b];rfl
   ·rfl
 obtain⟨P,hP⟩:∃P:Nat,∀(i:Nat) (f:Fo),(Yk h).ns[i]?=some f->f.ad=A->i=P:=by
  by_cases he:∃(i:Nat) (f:Fo),(Yk h).ns[i]?=some f/\f.ad=A
  ·obtain⟨i,f,hi,hf⟩:=he;exact⟨i,λj g hj hg=>NH r hj hi (hg.trans hf.symm)⟩
  ·exact⟨0,λi f hi hf=>(he ⟨i,f,hi,hf⟩).elim⟩
 refine C7 (r.vg_right) ?_ ?_ (P:=P) (Q:=0) ⟨?_,?_⟩
 ·unfold vg;rw[hv,hroots];rfl
 ·intro i m n hm hn;obtain⟨f,_,_,rfl⟩:=hnode i m n hm hn;split<;>rfl
 ·unfold vg;rw[hv];simp[Vw.gr]
 ·intro i m n hm hn;obtain⟨f,h1,_,rfl⟩:=hnode i m n hm hn;split
  ·rename_i hA;refine⟨Z1,λj u v hu hv hne=>⟨hP i f h1 hA,?_⟩⟩;cases j with
   |zero=>rfl
   |succ j=>simp at hu;rw[hu]at hv;cases hv;exact(hne rfl).elim
  ·exact⟨rfl,λj u v hu hv hne=>by rw[hu]at hv;cases hv;exact(hne rfl).elim⟩
def Gc(k:Int)(o:Ob){v:Int}(hv:(Zd h k)[(o.at_+1+o.ptrs).toNat]?=some v):U1 h k o v=h:=by
 have e:(Zd h k).set (o.at_+1+o.ptrs).toNat v=Zd h k:=by
  refine Z6Z λi=> ?_;rw[Z81];split
  ·rename_i hi;subst hi;have:=(Z4v.1 hv).1;rw[if_pos this,hv]
  ·rfl
 unfold U1;rw[e];unfold Xa Zd;by_cases h1:k=1
 ·simp[h1]
 by_cases h2:k=2
 ·simp[h2]
 by_cases h3:k=3
 ·simp[h3]
 ·simp[h1,h2,h3]
def DZ(h:Hp)(k:Nat):Hp:= {h with roots:=h.roots.set k 0}
def E0(r:Rt h p)(k:Nat):Rt (DZ h k) p:=⟨⟨⟨r.lay,r.tiles⟩,r.gone,r.ptr,r.room⟩,by
 show(h.roots.set k 0).length<=16;rw[Z6C];exact r.nroots,r.scan0,r.scanL,r.cyc,r.rest,r.once,λw hw=>by
 obtain hw|rfl:=Z5z hw
 ·exact r.roots w hw
 ·exact .inl rfl⟩
def N1(r:Rt h p)(k:Nat):vg (DZ h k)=YP (vg h) k (-1):=by
 have rg:=E0 r k;have hv:Yk (DZ h k)= {Yk h with ns:=(Yk h).ns.map id}:=GD (λf=>⟨rfl,rfl⟩) (jk (λq hq=>by rw[rg.obQ hq,r.obQ hq]) (λq hq o ho=>by simp only[foP,id,<-Vd _ hq];rfl) 4 0 Z0);rw[List.map_id]at hv;unfold vg YP Vw.gr;rw[hv];show Gr.mk _ ((h.roots.set k 0).map _)=_;rw[Z6f];simp[Vw.toA]
end
end
def jq{x:Rw}(hx:x.ok):1<=(So x).roots.length:=by
 have key:∀c,1<=(Y4 x (Zy x c)).roots.length:=λc=>by
  show 1<=(List.map _ (mkG x.nodes x.roots).roots).length;rw[Z56];unfold mkG;simp only;split
  ·simp
  ·rename_i h;simp only[Z56];have:x.roots.take 5≠[]:=h;exact Z7a.2 this
 unfold So;split
 ·exact key false
 ·exact key true
end Vm
end
