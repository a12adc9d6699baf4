import Derived.LoopNIn
import Derived.LoopIn
import Derived.Shelf.RegionOpen
import Derived.RecoverIn
import Derived.Maps.OwnIn
import Derived.Test.YthdflnfincieaaaGreatSMutatorRoom5
set_option linter.unusedSimpArgs false
set_option linter.unusedVariables false
set_option linter.defProp false
open Option renaming some→J,none→U
open Bool renaming true→xk,false→xw
open Go renaming undef→xy
open List renaming length→I
open Array renaming size→xz
open Go.World renaming heap→xj
open List renaming length→xq
open Array renaming size→xz
open Go.World renaming heap→xj
set_option maxHeartbeats 4000000
set_option maxRecDepth 100000
theorem Zhm{p:Prop}(h:p:=by rw[cell_of_row _ _ _ _ _ _ d.out.2.1];rfl):p:=h
theorem Zhg{p:Prop}(h:p:=by have:=d.out.size;simp at this;omega):p:=h
theorem ZgN{p:Prop}(h:p:=by have:=heap_alloc_new (w.alloc<|.cells #[.int .i64 0,.int .i64 0,.int .i64 0,.bool xw,.int .u64 0] 122)<|.cells #[.int .i64 a,.int .i64 0,.int .i64 0,.bool xw,.int .u64 0] 122;simp_all):p:=h
theorem Zh7{p:Prop}(h:p:=by rw[cell_of_row _ _ _ _ _ _ n];rfl):p:=h
theorem Zh6{p:Prop}(h:p:=by rw[cell_of_row _ _ _ _ _ _ h];rfl):p:=h
theorem Zh8{p:Prop}(h:p:=by rw[cell_of_row _ _ _ _ _ _ u];rfl):p:=h
theorem ZgR{p:Prop}(h:p:=by rw[Zx _ (by omega) (by omega)];omega):p:=h
theorem Zh5{p:Prop}(h:p:=by rw[cell_of_row _ _ _ _ _ _ F];rfl):p:=h
theorem Zh3{p:Prop}(h:p:=by have:=f.c2;rw[A.out.1,A.out.2.1,A.out.2.2.1,A.out.2.2.2]at this;grind [cell_of_row]):p:=h
theorem ZgK{p:Prop}(h:p:=by decide+kernel):p:=h
theorem Zhe{p:Prop}(h:p:=by obtain⟨y,_,rfl⟩:=List.mem_map.1 d;rfl):p:=h
def Zjv:=@eq_false
def ZiQ:=@List.length_nil
def Zj7:=@Go.World.cell?_alloc_lt
def Zjx:=@Array.replicate_succ
def Zjy:=@Array.replicate_zero
def Zk1:=@List.push_toArray
def ZjF:=@List.append_toArray
def Zk3:=@eq_true
def ZjQ:=@Go.callsIn_wide
def Zkb:=@Go.grownBy_setCell'
def ZkV:=@Go.run_takeDeferred
def Zkm:=@List.all_eq_false
def Zjr:=@List.mem_map_of_mem
def ZkJ:=@List.filter_eq_nil_iff
def ZlW:=@decide_true
def Zlg:=@decide_false
def Zm0:=@List.sum_cons
def ZiJ:=@List.getElem?_take_of_lt
def Zk7:=@List.flatMap_append
def Zlw:=@List.drop_append
def Zkf:=@List.set_cons_zero
def ZjB:=@Nat.add_sub_cancel_left
def Zlq:=@List.flatMap_cons
def Zlp:=@decide_eq_true
def ZkB:=@List.getElem?_replicate
def ZlK:=@List.mem_append_right
section
namespace Vm
open Go Go.Proofs Go.RowKit
def Z8x{x:Int}(hx:ZB x):VC xP 103 xw [vu x]<|.bool<|U0 x:=by
 refine ZT ES follows Z2 Z2Y rfl ?_;simp[MY];refine Zy (RR hx) Z1 ?_;simp_all[U0]
def Oe{x:Int}(hx:ZB x)(w:World):Calls xP 103 #[.int .u64 x] w λe a=>e=.returned (.bool<|U0 x)/\Below (xz<|xj w) w a:=
 TH (Z8x hx) rfl rfl w
structure Words (w:World) (ws:List Int) (g o cap:Nat):Prop where
 ab:∀(i:Nat) (x:Int),ws[i]?=J x->w.cell? ⟨g,o+i,U⟩=J (.int .u64 x)
 le:I ws<=cap
 cap:cap<=maxLen
 len:I ws<=1000000
 u64:∀x∈ws,ZB x
def Vu(e:Int):List PanicEntry:=[{v:=.iface 181<|.agg #[.int .i64 e],recovered:=xw}]
def WO(o:Ob):Value:=.agg #[.int .i64 o.ab,.int .i64 o.size,.int .i64 o.Y,.bool o.gone,.int .u64 o.target]
def yF(ws:List Int)(o:Ob):Ending:=
 if(I ws:Int)<o.ab+1+o.size then .panicked (Vu 2)else if Xw ((ws.drop<|o.ab.toNat+1).take o.size.toNat) o.gone o.Y 0=xw then .panicked (Vu 3)else .returned<|.tuple #[]
def Z4u(w:World)(ws:List Int)(g o cap:Nat)(C:Words w ws g o cap)(hg:g<xz (xj w))(t:Ob)(a:Nat)(N:t.ab=a)(A:a<I ws)(B:Yv t.size t.Y=xk):
  Calls xP 102 #[.slice (J ⟨g,o,U⟩) (I ws) cap,WO t] w λe w'=>e=yF ws t/\Below (xz<|xj w) w w':=by
 have hl:=C.len;have hc:=C.le;have hm:=C.cap;obtain⟨at_,size,ptrs,gone,target⟩:=t;simp only at N B;subst N;obtain⟨s1,s2,s3,s4⟩:=Yz.1 B;obtain⟨m,rfl⟩:=ZhW s1;have L:=ZhK C;have r:yF ws ⟨a,m,ptrs,gone,target⟩=if(I ws:Int)<a+1+m then .panicked (Vu 2)else if Xw ((ws.drop<|a+1).take m) gone ptrs 0=xw then .panicked (Vu 3)else .returned<|.tuple #[]:=rfl
 generalize yF ws ⟨a,m,ptrs,gone,target⟩=E at*;unfold WO;dsimp only;by_cases l:(I ws:Int)<a+1+m
 .rw[ZhS l]at r;have u:=ZhK r;clear r;have S:((I ws- (a+1):Nat):Int)<m:=Z0;go_enter zH,Tryz.ntmps102;go_wp2;all_goals exact⟨rfl,u.out.symm,(ZhY _ _).alloc (ZhL _) _⟩
 .rw[ZhP l]at r;have u:=ZhK r;clear r;have P:(m:Int)<=((I ws- (a+1):Nat):Int):=Z0;have Q:m<=I ws- (a+1):=Z0;have T:(I ws- (a+1)<m)=False:=Zjv Z0;have Z:m<=cap- (a+1):=Z0;have a0:m<=255:=Z0;clear C l;by_cases z:cap=a+1
  .have K:m=0:=Z0;subst K;subst z;go_enter zH,Tryz.ntmps102;go_wp2;go_loopw [26] (λi wr=>i=.int .i64 0/\Hid (Below (xz<|xj w) w wr)) (λi _=>0)
   case atStart=>exact⟨rfl,ZhK<|(ZhY _ _).alloc (ZhL _) _⟩
   case round=>
    obtain⟨rfl,X⟩:=hrel;go_wp2;go_end0
    exact⟨u.out.symm,X.out⟩
  .go_enter zH,Tryz.ntmps102;go_wp2
   go_loopw [26] (λi wr=>∃k:Nat,i=.int .i64 k/\k<=m/\Hid (Below (xz<|xj w) w wr/\wr.heap[xz<|xj w]?=J (.cells #[.int .i64 a,.int .i64 m,.int .i64 ptrs,.bool gone,.int .u64 target] 122 (0,0))/\
     Xw ((ws.drop<|a+1).take m) gone ptrs 0=Xw (((ws.drop<|a+1).take m).drop k) gone ptrs k)) (λi _=>m- (intOf i).toNat)
   case atStart=>exact⟨0,rfl,Z0,ZhK ⟨(ZhY _ _).alloc (ZhL _) _,Zi7 w _,rfl⟩⟩
   case round=>
    obtain⟨k,rfl,hk,d⟩:=hrel;by_cases A:k<m
    .obtain⟨x,D⟩:∃x,ws[a+1+k]?=J x:=⟨_,ZhG Z0⟩;have W:ZB x:=L.out.u64 x<|ZhR D;have M:((ws.drop<|a+1).take m)[k]?=J x:=by
      rw[Zim,ZhS A,Zil];exact D
     have c0:wr.cell? ⟨g,o+(a+1)+k,U⟩=J (.int .u64 x):=by
      rw[ZiS];exact(d.out.1.cell (p:=⟨g,o+(a+1+k),U⟩) hg).trans (L.out.ab _ _ D)
     have c1:wr.cell? ⟨xz<|xj w,1,U⟩=J (.int .i64 m):=Zhm;have c2:wr.cell? ⟨xz<|xj w,2,U⟩=J (.int .i64 ptrs):=Zhm;have c3:wr.cell? ⟨xz<|xj w,3,U⟩=J (.bool gone):=Zhm;have q:=ZaK (gone:=gone) (ptrs:=ptrs) M;have R:(k:Int)<m:=Z0;have G:=Y1 d.out.2.1;clear D M;have stop:Xw (((ws.drop<|a+1).take m).drop k) gone ptrs k=xw->E=.panicked (Vu 3):=λh=>by
      rw[u.out,d.out.2.2,h,ZhS rfl]
     cases gone
     .by_cases hp:(k:Int)<ptrs
      .cases H:U0 x
       .have f:=ZhK<|stop ZgI;clear stop q;go_wp2_with (go_at_call 103;refine(Oe W _).mono ?_;rintro e w1 ⟨rfl,j⟩;have n:=ZhK j;clear j)
        exact⟨rfl,f.out.symm,d.out.1.trans<|n.out.mono d.out.1.size⟩
       .have y:=ZhK<|q.trans (by simp[H]:_=Xw (((ws.drop<|a+1).take m).drop<|k+1) xw ptrs (k+1));clear stop q;go_wp2_with (go_at_call 103;refine(Oe W _).mono ?_;rintro e w1 ⟨rfl,j⟩;have n:=ZhK j;clear j)
        go_wp2;go_roundw
        case rel=>
         exact⟨k+1,by go_num,Z0,ZhK ⟨d.out.1.trans<|n.out.mono d.out.1.size,(n.out.block _ G).trans d.out.2.1,d.out.2.2.trans y.out⟩⟩
        case measure=>grind [intOf]
      .have y:=ZhK<|q.trans (by simp[hp]:_=Xw (((ws.drop<|a+1).take m).drop<|k+1) xw ptrs (k+1));clear stop q;go_wp2;go_roundw
       case rel=>exact⟨k+1,by go_num,Z0,ZhK ⟨d.out.1,d.out.2.1,d.out.2.2.trans y.out⟩⟩
       case measure=>grind [intOf]
     .by_cases Y:x=0
      .subst Y;have y:=ZhK<|q.trans (by simp[U0]:_=Xw (((ws.drop<|a+1).take m).drop<|k+1) xk ptrs (k+1));clear stop q;go_wp2;go_roundw
       case rel=>exact⟨k+1,by go_num,Z0,ZhK ⟨d.out.1,d.out.2.1,d.out.2.2.trans y.out⟩⟩
       case measure=>grind [intOf]
      .have f:=ZhK<|stop ZgI;clear stop q;go_wp2;exact⟨rfl,f.out.symm,d.out.1⟩
    .have:k=m:=Z0;subst this;have F:=d.out.2.2;have O:((ws.drop<|a+1).take k).drop k=[]:=Zjp ZgI;rw[O]at F;have f:=ZhK<|u.out.trans (by rw[F];rfl:_=Ending.returned (.tuple #[]));clear F O;go_wp2;go_end0
     exact⟨f.out.symm,d.out.1⟩
end Vm
namespace Vm
open Go Go.Proofs Go.RowKit
def Z6Y(w:World):Sem.run xP (binOp .neq 182 .nilFunc .nilFunc) w=.ok (.bool xw) w:=Zhw
def C3(w:World)(f:FuncId)(vs:Array Value):Sem.run xP (binOp .neq 182 (.func (.func f) #[] vs) .nilFunc) w=.ok (.bool xk) w:=Zhw
def ji{w:World}{b T v0 v1 d f v4}(h:w.heap[b]?=J (.cells #[v0,v1,d,f,v4] T (0,0)))O:
  ((w.alloc O).cell? ⟨b,0,U⟩=J v0/\(w.alloc O).cell? ⟨b,1,U⟩=J v1/\(w.alloc O).cell? ⟨b,2,U⟩=J d/\(w.alloc O).cell? ⟨b,3,U⟩=J f/\(w.alloc O).cell? ⟨b,4,U⟩=J v4)/\
  (w.alloc O).frozen? ⟨b,0,U⟩=xw/\(w.alloc O).frozen? ⟨b,1,U⟩=xw/\(w.alloc O).frozen? ⟨b,2,U⟩=xw/\(w.alloc O).frozen? ⟨b,3,U⟩=xw/\(w.alloc O).frozen? ⟨b,4,U⟩=xw:=by
 have a:(w.alloc O).heap[b]?=J _:=(ZhU _ _ _ ZgH).trans h;refine⟨⟨?_,?_,?_,?_,?_⟩,Yh a,Yh a,Yh a,Yh a,Yh a⟩<;>(rw[ZhQ _ _ _ _ _ _ a];rfl)
def R3(a:Nat)(x:Int):Ending:=if(ZR x).2.2=0 then .returned (WO ⟨a,(ZR x).1,(ZR x).2.1,xw,0⟩)else .panicked<|Vu 3
def Z2N(w:World)(ws:List Int)(g o cap:Nat)(n:Words w ws g o cap)(L:g<xz (xj w))(a:Nat)(x:Int)(hx:ws[a]?=J x):
  Calls xP 101 #[.slice (J ⟨g,o,U⟩) (I ws) cap,.int .i64 a,.nilFunc] w λe N=>e=R3 a x/\Below (xz<|xj w) w N:=by
 have Y:=n.len;have X:=n.le;have Z:=n.cap;have M:a<I ws:=(ZhH.1 hx).1;have A:(a:Int)<I ws:=Z0;have q:ZB x:=n.u64 x<|ZhR hx;have C:=n.ab a x hx;have z:∀W,Below (xz<|xj w) w W->W.cell? ⟨g,o+a,U⟩=J (.int .u64 x):=λW K=>(K.cell (p:=⟨g,o+a,U⟩) L).trans C;have l:R3 a x=if(ZR x).2.2=0 then .returned (WO ⟨a,(ZR x).1,(ZR x).2.1,xw,0⟩)else .panicked<|Vu 3:=rfl
 generalize R3 a x=E at*;have y:=ZhK z;have B:=Z6Y;clear n hx z;by_cases t:(ZR x).2.2=0
 .rw[ZhS t]at l;have r:=ZhK l;clear l;go_enter RO,Tryz.ntmps101
  go_wp2_with (first
   |(go_at_call 46;refine(TE q _).mono ?_;rintro e w1 ⟨rfl,f⟩;have d:=ZhK f;have D:=y.out w1<|((((ZhY _ w).alloc (ZhL _) _).alloc (by simp) _).trans<|f.mono (by simp;omega));clear f)
   | (go_at_call 58;refine(QJ q _).mono ?_;rintro e w2 ⟨rfl,h⟩;have j:=ZhK h
      have H:=d.out.block;have r0:w2.heap[xz<|xj w]?=J (.cells #[.int .i64 0,.int .i64 0,.int .i64 0,.bool xw,.int .u64 0] 122 (0,0)):=(h.block _ Zhg).trans<|(d.out.block _ ZgJ).trans<|(ZhU _ _ _ Z1).trans<|Zi7 w _;have u:w2.heap[xz (xj w)+1]?=J (.cells #[.int .i64 a,.int .i64 0,.int .i64 0,.bool xw,.int .u64 0] 122 (0,0)):=(h.block _ Zhg).trans<|(d.out.block _ Z1).trans ZgN;obtain⟨⟨O,P,Q,R,S⟩,y0,y1,y2,y3,y4⟩:=ji r0<|.cells #[.int .i64 (ZR x).1,.int .i64 (ZR x).2.1] 34;obtain⟨⟨p0,p1,p2,p3,p4⟩,q0,q1,q2,q3,q4⟩:=ji u<|.cells #[.int .i64 (ZR x).1,.int .i64 (ZR x).2.1] 34;have T:=ZhK<|And.intro r0 u;clear h H r0 u))
  refine Zie (v:=WO ⟨a,(ZR x).1,(ZR x).2.1,xw,0⟩) ?_ rfl ⟨r.out.symm,?_⟩
  .simp[results,Tryz.results101,go_sem,WO,O,P,Q,R,S]
  have k:=(((ZhY _ w).alloc (ZhL _)<|.cells #[.int .i64 0,.int .i64 0,.int .i64 0,.bool xw,.int .u64 0] 122).alloc Z1<|.cells #[.int .i64 a,.int .i64 0,.int .i64 0,.bool xw,.int .u64 0] 122).trans<|d.out.mono ZgJ;have G:=(k.trans<|j.out.mono (by have:=k.size;omega)).alloc (by have:=k.size;have:=j.out.size;omega)<|.cells #[.int .i64 (ZR x).1,.int .i64 (ZR x).2.1] 34;exact((((((G.setCell (p:=⟨xz (xj w)+1,1,U⟩) Z1 _).setCell (p:=⟨xz (xj w)+1,2,U⟩) Z1 _).setCell (p:=⟨xz<|xj w,0,U⟩) (ZhL _) _).setCell (p:=⟨xz<|xj w,1,U⟩) (ZhL _) _).setCell (p:=⟨xz<|xj w,2,U⟩) (ZhL _) _).setCell (p:=⟨xz<|xj w,3,U⟩) (ZhL _) _).setCell (p:=⟨xz<|xj w,4,U⟩) (ZhL _) _
 .rw[ZhP t]at l;have r:=ZhK l;clear l;have F:((ZR x).2.2=0)=False:=Zjv t;go_enter RO,Tryz.ntmps101
  go_wp2_with (first
   |(go_at_call 46;refine(TE q _).mono ?_;rintro e w1 ⟨rfl,f⟩;have d:=ZhK f;have D:=y.out w1<|((((ZhY _ w).alloc (ZhL _) _).alloc (by simp) _).trans<|f.mono (by simp;omega));clear f)
   |(go_at_call 58;refine(QJ q _).mono ?_;rintro e w2 ⟨rfl,h⟩;have j:=ZhK h;clear h))
  refine⟨rfl,r.out.symm,?_⟩;have k:=(((ZhY _ w).alloc (ZhL _)<|.cells #[.int .i64 0,.int .i64 0,.int .i64 0,.bool xw,.int .u64 0] 122).alloc Z1<|.cells #[.int .i64 a,.int .i64 0,.int .i64 0,.bool xw,.int .u64 0] 122).trans<|d.out.mono ZgJ;exact(k.trans<|j.out.mono (by have:=k.size;omega)).alloc (by have:=k.size;have:=j.out.size;omega) _
end Vm
namespace Vm
open Go Go.Proofs Go.RowKit
def Pw(s p:Int)(w:World):Calls xP 35 #[.agg #[.int .i64 s,.int .i64 p]] w λe a=>e=.returned (.bool<|Yv s p)/\Below (xz<|xj w) w a:=
 TH Dh rfl rfl w
structure Shps (w:World) (shs:List<|Int×Int) (bs:Nat) (v:Value):Prop where
 box:w.heap[bs]?=J (.cells #[v] 170 (0,0))
 val:(∃g o cap,v=.slice (J ⟨g,o,U⟩) (I shs) cap/\I shs<=cap/\cap<=maxLen/\g<xz (xj w)/\∀(i:Nat) (x:Int×Int),shs[i]?=J x->w.cell? ⟨g,o+i*2,U⟩=J (.int .i64 x.1)/\w.cell? ⟨g,o+i*2+1,U⟩=J (.int .i64 x.2))\/
  (∃a cap,v=.slice a 0 cap/\shs=[])
def Z4m(w:World)(shs:List<|Int×Int)(bt h:Nat)(v:Value)(x:I shs<=1000000)(d:Shps w shs h v)(f:w.heap[bt]?=J (.cells #[.int .i64<|I shs] 3 (0,0))):
  Calls xP 96 #[.pointer<|J ⟨bt,0,U⟩,.pointer<|J ⟨h,0,U⟩] w λe p=>e=.panicked (Vu 3)/\Below (xz<|xj w) w p:=by
 have k:w.cell? ⟨bt,0,U⟩=J (.int .i64<|I shs):=by rw[ZhQ _ _ _ _ _ _ f];rfl
 have n:=Y1 f;have j:=Y1 d.box;have q:w.cell? ⟨h,0,U⟩=J v:=by rw[ZhQ _ _ _ _ _ _ d.box];rfl
 obtain⟨g,o,cap,rfl,r,t,u,l⟩|⟨a,cap,rfl,rfl⟩:=d.val
 .clear l d f;go_enter Kl,Tryz.ntmps96;go_wp2;exact⟨rfl,rfl,(ZhY _ _).alloc (ZhL _) _⟩
 .clear d f;simp only[ZiQ]at k;go_enter Kl,Tryz.ntmps96;go_wp2;exact⟨rfl,rfl,(ZhY _ _).alloc (ZhL _) _⟩
def Z4l(w:World)(shs:List<|Int×Int)(bt j t:Nat)(v:Value)(x:Int×Int)(K:I shs<=1000000)(f:Shps w shs j v)(k:w.heap[bt]?=J (.cells #[.int .i64 t] 3 (0,0)))(hx:shs[t]?=J x)(r:Yv x.1 x.2=xw):
  Calls xP 96 #[.pointer<|J ⟨bt,0,U⟩,.pointer<|J ⟨j,0,U⟩] w λe A=>e=.panicked (Vu 3)/\Below (xz<|xj w) w A:=by
 have B:w.cell? ⟨bt,0,U⟩=J (.int .i64 t):=by rw[ZhQ _ _ _ _ _ _ k];rfl
 have u:=Y1 k;have p:=Y1 f.box;have y:t<I shs:=(ZhH.1 hx).1;have z:¬t=I shs:=Z0;have q:(t:Int)<I shs:=Z0;have C:w.cell? ⟨j,0,U⟩=J v:=by rw[ZhQ _ _ _ _ _ _ f.box];rfl
 obtain⟨g,o,cap,rfl,F,G,H,n⟩|⟨a,cap,rfl,rfl⟩:=f.val
 .obtain⟨D,d1⟩:=n t x hx;have l:=Pw x.1 x.2;rw[r]at l;clear n f k hx r;go_enter Kl,Tryz.ntmps96;go_wp2_with (go_at_call 35;refine(l _).mono ?_;rintro e w1 ⟨rfl,d⟩;have h:=ZhK d;clear d)
  exact⟨rfl,rfl,((ZhY _ w).alloc (ZhL _) _).trans<|h.out.mono Z1⟩
 grind
def Z4n(w:World)(shs:List<|Int×Int)(bt f t:Nat)(v:Value)(x:Int×Int)(hl:I shs<=1000000)(y:Shps w shs f v)(l:w.heap[bt]?=J (.cells #[.int .i64 t] 3 (0,0)))(hx:shs[t]?=J x)(L:Yv x.1 x.2=xk)(q:f≠bt)
  (r:∀g o cap,v=.slice (J ⟨g,o,U⟩) (I shs) cap->g≠bt):
  Calls xP 96 #[.pointer<|J ⟨bt,0,U⟩,.pointer<|J ⟨f,0,U⟩] w λe M=>e=.returned (.agg #[.int .i64 x.1,.int .i64 x.2])/\w.grownBy M (J bt)/\M.heap[bt]?=J (.cells #[.int .i64 ((t+1:Nat):Int)] 3 (0,0)):=by
 have N:w.cell? ⟨bt,0,U⟩=J (.int .i64 t):=by rw[ZhQ _ _ _ _ _ _ l];rfl
 have h:=Y1 l;have n:=Y1 y.box;have R:t<I shs:=(ZhH.1 hx).1;have u:¬t=I shs:=Z0;have K:(t:Int)<I shs:=Z0;have O:w.cell? ⟨f,0,U⟩=J v:=by rw[ZhQ _ _ _ _ _ _ y.box];rfl
 have hf:=Yh (o:=0) l;have G:¬f=bt:=q;have H:¬bt=f:=λe=>q e.symm;obtain⟨g,o,cap,rfl,h1,h2,D,F⟩|⟨a,cap,rfl,rfl⟩:=y.val
 .obtain⟨P,d1⟩:=F t x hx;have hg:=r g o cap rfl;have C:=Pw x.1 x.2;rw[L]at C;have B:=ZhK l;clear F y l hx L r;go_enter Kl,Tryz.ntmps96
  go_wp2_with (go_at_call 35;refine(C _).mono ?_;rintro e w1 ⟨rfl,d⟩
               have z:=ZhK d;have s1:=d.size;have k0:w1.cell? ⟨bt,0,U⟩=J (.int .i64 t):=(d.cell (p:=⟨bt,0,U⟩) ZgJ).trans<|(Zj7 _ _ _ h).trans N;have k1:w1.frozen? ⟨bt,0,U⟩=xw:=Yh<|(d.block bt ZgJ).trans<|(ZhU _ _ _ h).trans B.out;have k2:w1.cell? ⟨f,0,U⟩=J (.slice (J ⟨g,o,U⟩) (I shs) cap):=(d.cell (p:=⟨f,0,U⟩) ZgJ).trans<|(Zj7 _ _ _ n).trans O;have k3:w1.cell? ⟨g,o+t*2,U⟩=J (.int .i64 x.1):=(d.cell (p:=⟨g,o+t*2,U⟩) ZgJ).trans<|(Zj7 _ _ _ D).trans P;have k4:w1.cell? ⟨g,o+t*2+1,U⟩=J (.int .i64 x.2):=(d.cell (p:=⟨g,o+t*2+1,U⟩) ZgJ).trans<|(Zj7 _ _ _ D).trans d1;have r0:w1.heap[xz<|xj w]?=J (.cells #[.int .i64 0,.int .i64 0] 34 (0,0)):=(d.block _ Z1).trans<|Zi7 w _;have X:w1.cell? ⟨xz<|xj w,0,U⟩=J (.int .i64 0):=by rw[ZhQ _ _ _ _ _ _ r0];rfl
               have Y:w1.cell? ⟨xz<|xj w,1,U⟩=J (.int .i64 0):=by rw[ZhQ _ _ _ _ _ _ r0];rfl
               have y0:=Yh (o:=0) r0;have y1:=Yh (o:=1) r0;have T:¬xz (xj w)=bt:=Z0;have W:¬bt=xz (xj w):=Z0;have Z:=ZhK r0;clear d r0)
  have j:Below (xz<|xj w) w w1:=((ZhY _ w).alloc (ZhL _)<|.cells #[.int .i64 0,.int .i64 0] 34).trans<|z.out.mono Z1;have S:w1.heap[bt]?=J (.cells #[.int .i64 t] 3 (0,0)):=(j.block bt h).trans B.out;refine Zie (v:=.agg #[.int .i64 x.1,.int .i64 x.2]) ?_ rfl ⟨rfl,⟨j.os,j.tape,j.output,?_,λk Q u=> ?_⟩,?_⟩
  .simp[results,Tryz.results96,go_sem,X,Y,T,W]
  simp[World.setCell];exact j.size;have A:k≠bt:=λe=>u (by rw[e]);rw[Zi0 _ _ _ _ ZgH,Zi0 _ _ _ _ ZgH,Zi0 _ _ _ _ A];exact j.block k Q;simp_all[Zi0,World.setCell,Zij]
 grind
end Vm
namespace Vm
open Go Go.Proofs Go.RowKit
def Z2O(w:World)(f:FuncId)(vs:Array Value)(ws:List Int)(g o cap:Nat)(q:Words w ws g o cap)(O:g<xz (xj w))(a:Nat)(x:Int)(hx:ws[a]?=J x)(y:¬(adr x).2=0):
  Calls xP 101 #[.slice (J ⟨g,o,U⟩) (I ws) cap,.int .i64 a,.func (.func f) #[] vs] w λe Q=>e=R3 a x/\Below (xz<|xj w) w Q:=by
 have hl:=q.len;have hc:=q.le;have hm:=q.cap;have P:a<I ws:=(ZhH.1 hx).1;have C:(a:Int)<I ws:=Z0;have r:ZB x:=q.u64 x<|ZhR hx;have F:=q.ab a x hx;have B:∀W,Below (xz<|xj w) w W->W.cell? ⟨g,o+a,U⟩=J (.int .u64 x):=λW M=>(M.cell (p:=⟨g,o+a,U⟩) O).trans F;have n:R3 a x=if(ZR x).2.2=0 then .returned (WO ⟨a,(ZR x).1,(ZR x).2.1,xw,0⟩)else .panicked<|Vu 3:=rfl
 generalize R3 a x=E at*;have A:=ZhK B;have N:=λW=>C3 W f vs;have D:((adr x).2=0)=False:=Zjv y;clear q hx B;by_cases u:(ZR x).2.2=0
 .rw[ZhS u]at n;have t:=ZhK n;clear n;go_enter RO,Tryz.ntmps101
  go_wp2_with (first
   |(go_at_call 46;refine(TE r _).mono ?_;rintro e w1 ⟨rfl,h⟩;have d:=ZhK h;have G:=A.out w1<|((((ZhY _ w).alloc (ZhL _) _).alloc (by simp) _).trans<|h.mono (by simp;omega));clear h)
   | (go_at_call 58;refine(QJ r _).mono ?_;rintro e w2 ⟨rfl,j⟩;have k:=ZhK j
      have L:=d.out.block;have r0:w2.heap[xz<|xj w]?=J (.cells #[.int .i64 0,.int .i64 0,.int .i64 0,.bool xw,.int .u64 0] 122 (0,0)):=(j.block _ Zhg).trans<|(d.out.block _ ZgJ).trans<|(ZhU _ _ _ Z1).trans<|Zi7 w _;have z:w2.heap[xz (xj w)+1]?=J (.cells #[.int .i64 a,.int .i64 0,.int .i64 0,.bool xw,.int .u64 0] 122 (0,0)):=(j.block _ Zhg).trans<|(d.out.block _ Z1).trans ZgN;obtain⟨⟨R,S,T,X,Y⟩,y0,y1,y2,y3,y4⟩:=ji r0<|.cells #[.int .i64 (ZR x).1,.int .i64 (ZR x).2.1] 34;obtain⟨⟨p0,p1,p2,p3,p4⟩,q0,q1,q2,q3,q4⟩:=ji z<|.cells #[.int .i64 (ZR x).1,.int .i64 (ZR x).2.1] 34;have Z:=ZhK<|And.intro r0 z;clear j L r0 z))
  refine Zie (v:=WO ⟨a,(ZR x).1,(ZR x).2.1,xw,0⟩) ?_ rfl ⟨t.out.symm,?_⟩
  .simp[results,Tryz.results101,go_sem,WO,R,S,T,X,Y]
  have l:=(((ZhY _ w).alloc (ZhL _)<|.cells #[.int .i64 0,.int .i64 0,.int .i64 0,.bool xw,.int .u64 0] 122).alloc Z1<|.cells #[.int .i64 a,.int .i64 0,.int .i64 0,.bool xw,.int .u64 0] 122).trans<|d.out.mono ZgJ;have K:=(l.trans<|k.out.mono (by have:=l.size;omega)).alloc (by have:=l.size;have:=k.out.size;omega)<|.cells #[.int .i64 (ZR x).1,.int .i64 (ZR x).2.1] 34;exact((((((K.setCell (p:=⟨xz (xj w)+1,1,U⟩) Z1 _).setCell (p:=⟨xz (xj w)+1,2,U⟩) Z1 _).setCell (p:=⟨xz<|xj w,0,U⟩) (ZhL _) _).setCell (p:=⟨xz<|xj w,1,U⟩) (ZhL _) _).setCell (p:=⟨xz<|xj w,2,U⟩) (ZhL _) _).setCell (p:=⟨xz<|xj w,3,U⟩) (ZhL _) _).setCell (p:=⟨xz<|xj w,4,U⟩) (ZhL _) _
 .rw[ZhP u]at n;have t:=ZhK n;clear n;have H:((ZR x).2.2=0)=False:=Zjv u;go_enter RO,Tryz.ntmps101
  go_wp2_with (first
   |(go_at_call 46;refine(TE r _).mono ?_;rintro e w1 ⟨rfl,h⟩;have d:=ZhK h;have G:=A.out w1<|((((ZhY _ w).alloc (ZhL _) _).alloc (by simp) _).trans<|h.mono (by simp;omega));clear h)
   |(go_at_call 58;refine(QJ r _).mono ?_;rintro e w2 ⟨rfl,j⟩;have k:=ZhK j;clear j))
  refine⟨rfl,t.out.symm,?_⟩;have l:=(((ZhY _ w).alloc (ZhL _)<|.cells #[.int .i64 0,.int .i64 0,.int .i64 0,.bool xw,.int .u64 0] 122).alloc Z1<|.cells #[.int .i64 a,.int .i64 0,.int .i64 0,.bool xw,.int .u64 0] 122).trans<|d.out.mono ZgJ;exact(l.trans<|k.out.mono (by have:=l.size;omega)).alloc (by have:=l.size;have:=k.out.size;omega) _
def FX(w:World)(vs:Array Value)(ws:List Int)(g o cap:Nat)(h:Words w ws g o cap)(G:g<xz (xj w))(a:Nat)(x:Int)(hx:ws[a]?=J x)(A:(adr x).2=0)
  (d:∀W,Below (xz<|xj w) w W->Calls xP 96 vs W λe W'=>e=.panicked (Vu 3)/\Below (xz<|xj W) W W'):
  Calls xP 101 #[.slice (J ⟨g,o,U⟩) (I ws) cap,.int .i64 a,.func (.func 96) #[] vs] w λe C=>e=.panicked (Vu 3)/\Below (xz<|xj w) w C:=by
 have H:=h.len;have F:=h.le;have K:=h.cap;have z:a<I ws:=(ZhH.1 hx).1;have t:(a:Int)<I ws:=Z0;have B:ZB x:=h.u64 x<|ZhR hx;have D:=h.ab a x hx;have y:=λW=>C3 W 96 vs;have u:=ZhK d;clear h hx d;go_enter RO,Tryz.ntmps101
 go_wp2_with (first
  | (go_at_call 46;refine(TE B _).mono ?_;rintro e w1 ⟨rfl,f⟩
     have r:Below (xz<|xj w) w w1:=((((ZhY _ w).alloc (ZhL _) _).alloc Z1 _).trans<|f.mono ZgJ);have k:w1.heap[xz (xj w)+1]?=J (.cells #[.int .i64 a,.int .i64 0,.int .i64 0,.bool xw,.int .u64 0] 122 (0,0)):=(f.block _ Z1).trans ZgN;have p3:w1.cell? ⟨xz (xj w)+1,3,U⟩=J (.bool xw):=by rw[ZhQ _ _ _ _ _ _ k];rfl
     have p4:w1.cell? ⟨xz (xj w)+1,4,U⟩=J (.int .u64 0):=by rw[ZhQ _ _ _ _ _ _ k];rfl
     have L:=Yh (o:=3) k;have M:=Yh (o:=4) k;have n:=ZhK r;clear f r k)
  |(go_at_call 96;refine(u.out _ ?_).mono ?_;rotate_left;rintro e w2 ⟨rfl,j⟩;have l:=ZhK j;clear j))
 case refine_1=>exact(n.out.setCell (p:=⟨xz (xj w)+1,3,U⟩) Z1 _).setCell (p:=⟨xz (xj w)+1,4,U⟩) Z1 _
 case refine_2=>
  have q:=(n.out.setCell (p:=⟨xz (xj w)+1,3,U⟩) Z1<|.bool xk).setCell (p:=⟨xz (xj w)+1,4,U⟩) Z1<|.int .u64 (adr x).1;exact⟨rfl,rfl,q.trans<|l.out.mono q.size⟩
theorem Z4p{w W:World}{r}(h:w.grownBy W r){p}(f:xz (xj w)<=p.block)u:w.grownBy (W.setCell p u) r:=
 ⟨h.os,h.tape,h.output,by simpa[World.setCell]using h.size,λk d a=>(Zi0 _ _ _ _ Z0).trans<|h.block k d a⟩
def Z2M(w:World)(vs:Array Value)(ws:List Int)(g o cap:Nat)(r:Words w ws g o cap)(hg:g<xz (xj w))(a:Nat)(x:Int)(hx:ws[a]?=J x)(Q:(adr x).2=0)
  (bt:Nat) (O:Obj) (s p:Int) (L:bt<xz (xj w))
  (f:∀W,Below (xz<|xj w) w W->Calls xP 96 vs W λe W'=>e=.returned (.agg #[.int .i64 s,.int .i64 p])/\W.grownBy W' (J bt)/\W'.heap[bt]?=J O):
  Calls xP 101 #[.slice (J ⟨g,o,U⟩) (I ws) cap,.int .i64 a,.func (.func 96) #[] vs] w λe H=>e=.returned (WO ⟨a,s,p,xk,(adr x).1⟩)/\w.grownBy H (J bt)/\H.heap[bt]?=J O:=by
 have hl:=r.len;have hc:=r.le;have hm:=r.cap;have P:a<I ws:=(ZhH.1 hx).1;have G:(a:Int)<I ws:=Z0;have R:ZB x:=r.u64 x<|ZhR hx;have c0:=r.ab a x hx;have M:=λW=>C3 W 96 vs;have K:=ZhK f;clear r hx f;go_enter RO,Tryz.ntmps101
 go_wp2_with (first
  | (go_at_call 46;refine(TE R _).mono ?_;rintro e w1 ⟨rfl,j⟩
     have D:Below (xz<|xj w) w w1:=((((ZhY _ w).alloc (ZhL _) _).alloc Z1 _).trans<|j.mono ZgJ);have t:w1.heap[xz (xj w)+1]?=J (.cells #[.int .i64 a,.int .i64 0,.int .i64 0,.bool xw,.int .u64 0] 122 (0,0)):=(j.block _ Z1).trans ZgN;have p3:w1.cell? ⟨xz (xj w)+1,3,U⟩=J (.bool xw):=by rw[ZhQ _ _ _ _ _ _ t];rfl
     have p4:w1.cell? ⟨xz (xj w)+1,4,U⟩=J (.int .u64 0):=by rw[ZhQ _ _ _ _ _ _ t];rfl
     have q3:=Yh (o:=3) t;have q4:=Yh (o:=4) t;have r0:w1.heap[xz<|xj w]?=J (.cells #[.int .i64 0,.int .i64 0,.int .i64 0,.bool xw,.int .u64 0] 122 (0,0)):=(j.block _ ZgJ).trans<|(ZhU _ _ _ Z1).trans<|Zi7 w _;have z:=ZhK<|And.intro r0 t;have C:=ZhK D;clear j D r0 t)
  | (go_at_call 96;refine(K.out _ ?_).mono ?_;rotate_left;rintro e w2 ⟨rfl,l,u⟩
     have d:=ZhK l;have A:=ZhK u;have n:w2.heap[xz (xj w)+1]?=J (.cells #[.int .i64 a,.int .i64 0,.int .i64 0,.bool xk,.int .u64 (adr x).1] 122 (0,0)):=(l.block _ (by simp[World.setCell];exact Y1 z.out.2) ZgJ).trans (by simp[World.setCell,Zij,z.out.2]);have h:w2.heap[xz<|xj w]?=J (.cells #[.int .i64 0,.int .i64 0,.int .i64 0,.bool xw,.int .u64 0] 122 (0,0)):=(l.block _ (by simp[World.setCell];exact Y1 z.out.1) ZgJ).trans (by simp[World.setCell,Zij,z.out.1]);have s0:w2.cell? ⟨xz (xj w)+1,0,U⟩=J (.int .i64 a):=Zh7;have s1:w2.cell? ⟨xz (xj w)+1,1,U⟩=J (.int .i64 0):=Zh7;have s2:w2.cell? ⟨xz (xj w)+1,2,U⟩=J (.int .i64 0):=Zh7;have s3:w2.cell? ⟨xz (xj w)+1,3,U⟩=J (.bool xk):=Zh7;have s4:w2.cell? ⟨xz (xj w)+1,4,U⟩=J (.int .u64 (adr x).1):=Zh7;have S:w2.cell? ⟨xz<|xj w,0,U⟩=J (.int .i64 0):=Zh6;have T:w2.cell? ⟨xz<|xj w,1,U⟩=J (.int .i64 0):=Zh6;have X:w2.cell? ⟨xz<|xj w,2,U⟩=J (.int .i64 0):=Zh6;have Y:w2.cell? ⟨xz<|xj w,3,U⟩=J (.bool xw):=Zh6;have Z:w2.cell? ⟨xz<|xj w,4,U⟩=J (.int .u64 0):=Zh6;have u1:=Yh (o:=1) n;have u2:=Yh (o:=2) n;have v0:=Yh (o:=0) h;have v1:=Yh (o:=1) h;have v2:=Yh (o:=2) h;have v3:=Yh (o:=3) h;have v4:=Yh (o:=4) h;clear l u h n))
 case refine_1=>exact(C.out.setCell (p:=⟨xz (xj w)+1,3,U⟩) Z1 _).setCell (p:=⟨xz (xj w)+1,4,U⟩) Z1 _
 next=>
  have q:=(C.out.setCell (p:=⟨xz (xj w)+1,3,U⟩) Z1<|.bool xk).setCell (p:=⟨xz (xj w)+1,4,U⟩) Z1<|.int .u64 (adr x).1;have N:w.grownBy w2<|J bt:=⟨d.out.os.trans q.os,d.out.tape.trans q.tape,d.out.output.trans q.output,Zif q.size d.out.size,λk F B=>(d.out.block k (ZhO F q.size) B).trans<|q.block k F⟩;have k1:bt≠xz (xj w)+1:=Z0;have y:bt≠xz (xj w):=Z0;clear q;refine Zie (v:=WO ⟨a,s,p,xk,(adr x).1⟩) ?_ rfl ⟨rfl,?_,?_⟩
  .simp[results,Tryz.results101,go_sem,WO,S,T,X,Y,Z]
  grind [Z4p];rw[Zi0 _ _ _ _ y,Zi0 _ _ _ _ y,Zi0 _ _ _ _ y,Zi0 _ _ _ _ y,Zi0 _ _ _ _ y,Zi0 _ _ _ _ k1,Zi0 _ _ _ _ k1];exact A.out
end Vm
namespace Vm
open Go Go.Proofs Go.RowKit Go.Shelf
def UU(W:World)(bl:Nat):Option Nat:=(W.cell? ⟨bl,0,U⟩).bind Value.ownBlock
structure KpW (bl base:Nat) (A B:World):Prop where
 size:xz (xj A)<=xz (xj B)
 same:∀k o,A.heap[k]?=J o->o.isCells=xk->k≠bl->(k<base\/UU A bl≠J k)->B.heap[k]?=J o
 row:∀k,k<xz (xj A)->UU B bl=J k->UU A bl=J k
theorem KpW.trans{bl base A B C}(h:KpW bl base A B)(k:KpW bl base B C):KpW bl base A C:=
 ⟨Zif h.size k.size,λi o a g j d=>k.same i o (h.same i o a g j d) g j (d.imp id λf e=>f<|h.row i ZgH e),λi a d=>h.row i a<|k.row i (ZhO a h.size) d⟩
theorem KpW.put{bl base W l o}d(j:W.heap[l]?=J o)(n:o.isCells=xw)(g:bl≠l):KpW bl base W<|W.putObj l d:=by
 have a:(W.putObj l d).cell? ⟨bl,0,U⟩=W.cell? ⟨bl,0,U⟩:=Ziz<|Ziq Z0;refine⟨Z1,λk q h f _ _=> ?_,λk _ p=> ?_⟩;grind [World.putObj_heap_other];simp_all[UU]
def zw(ws:List Int)(g o cap:Nat)(gv:Value)(shs:List<|Int×Int)(old:Bool)(bt:Option Nat)(K:Nat->World->Prop):Prop:=
 ∀(W:World) (a t:Nat) (x:Int),Words W ws g o cap->g<xz (xj W)->K t W->ws[a]?=J x->
  Calls xP 101 #[.slice (J ⟨g,o,U⟩) (I ws) cap,.int .i64 a,gv] W λe W'=>W.grownBy W' bt/\match Wm shs old a t x with
   |some (d,f)=>e=.returned (WO d)/\K f W'
   |none=>e=.panicked (Vu 3)
def yg(ws:List Int)(shs:List<|Int×Int)(old:Bool)(K:Nat->World->Prop)(xs:List Ob)(W:World):Prop:=
 ∃t,K t W/\ZP ws shs old=(if t<(I shs) then([],3)else(xs,0))
def Z3F(ws:List Int)(shs:List<|Int×Int)(old:Bool)(chain:List PanicEntry)(pre:List Ob)(W:World):Prop:=
 ∃e,(e=2\/e=3)/\chain=Vu e/\ZP ws shs old=([],e)
structure Stat6 (ws:List Int) (g o cap:Nat) (sv:Value) (bw bg base bl:Nat) (bt:Option Nat) (gv:Value) (W:World):Prop where
 words:Words W ws g o cap
 vk:sv=.slice (J ⟨g,o,U⟩) (I ws) cap\/(ws=[]/\∃a c,sv=.slice a 0 c)
 th:W.heap[bw]?=J (.cells #[sv] 28 (0,0))
 vc:W.heap[bg]?=J (.cells #[gv] 182 (0,0))
 gb:ws≠[]->∃ob,W.heap[g]?=J ob/\ob.isCells=xk
 lt:g<base/\bw<base/\bg<base/\base<=xz (xj W)
 ne:g≠bl/\bw≠bl/\bg≠bl
 nt:J g≠bt/\J bw≠bt/\J bg≠bt
section
variable {ws:List Int}{g o cap bw bg base bl:Nat}{bt:Option Nat}{sv gv:Value}{W W':World}
theorem Stat6.of(h:Stat6 ws g o cap sv bw bg base bl bt gv W)(n:xz (xj W)<=xz (xj W'))(d:∀k a,W.heap[k]?=J a->a.isCells=xk->k<base->k≠bl->J k≠bt->W'.heap[k]?=J a):Stat6 ws g o cap sv bw bg base bl bt gv W':=by
 refine⟨⟨λi x p=> ?_,h.words.le,h.words.cap,h.words.len,h.words.u64⟩,h.vk,d _ _ h.th rfl h.lt.2.1 h.ne.2.1 h.nt.2.1,d _ _ h.vc rfl h.lt.2.2.1 h.ne.2.2 h.nt.2.2,λj=> ?_,⟨h.lt.1,h.lt.2.1,h.lt.2.2.1,Zif h.lt.2.2.2 n⟩,h.ne,h.nt⟩;have j:ws≠[]:=ZgH;let⟨a,l,f⟩:=h.gb j;have q:=d _ _ l f h.lt.1 h.ne.1 h.nt.1;rw[<-h.words.ab i x p];grind [World.cell?_of_block];let⟨a,l,f⟩:=h.gb j;exact⟨a,d _ _ l f h.lt.1 h.ne.1 h.nt.1,f⟩
def Stat6.grown(h:Stat6 ws g o cap sv bw bg base bl bt gv W)(a:W.grownBy W' bt):=
 h.of a.size λk j d _ _ _ f=>(a.block k ZgH f).trans d
def Stat6.kp(h:Stat6 ws g o cap sv bw bg base bl bt gv W)(f:KpW bl base W W'):=
 h.of f.size λk n a j l d _=>f.same k n a j d Z0
end
def Te{W W'}(a:Below (xz<|xj W) W W')r:W.grownBy W' r:=⟨a.os,a.tape,a.output,a.size,λk d _=>a.block k d⟩
def Z2K{ws g o cap}:zw ws g o cap .nilFunc [] xw U (λt _=>t=0):=by
 intro W a t x h f k j;refine(Z2N W ws g o cap h f a x j).mono ?_;rintro e W' ⟨rfl,d⟩;refine⟨Te d U,?_⟩;unfold Wm R3;grind
def Shps.grown{W W' shs d v r}(h:Shps W shs d v)(j:W.grownBy W' r)(f:J d≠r)(p:shs≠[]->∀g o cap,v=.slice (J ⟨g,o,U⟩) (I shs) cap->J g≠r):Shps W' shs d v:=by
 refine⟨(j.block _ (Y1 h.box) f).trans h.box,?_⟩;obtain⟨g,o,cap,rfl,l,n,k,q⟩|⟨a,cap,rfl,rfl⟩:=h.val;refine .inl ⟨g,o,cap,rfl,l,n,ZhO k j.size,λi x u=> ?_⟩;have t:=j.block g k ZgH;grind [World.cell?_of_block];simp
def KOld(shs:List<|Int×Int)(bt a:Nat)(v:Value)(t:Nat)(W:World):Prop:=W.heap[bt]?=J (.cells #[.int .i64 t] 3 (0,0))/\Shps W shs a v/\t<=I shs
def Z2L{ws:List Int}{g o cap:Nat}{shs:List (Int×Int)}{bt k:Nat}{v:Value}(B:I shs<=1000000)(n:k≠bt)(q:shs≠[]->∀g o cap,v=.slice (J ⟨g,o,U⟩) (I shs) cap->g≠bt):
  zw ws g o cap (.func (.func 96) #[] #[.pointer<|J ⟨bt,0,U⟩,.pointer<|J ⟨k,0,U⟩]) shs xk (J bt) (KOld shs bt k v):=by
 intro W a t x y w F z;obtain⟨A,D,M⟩:=F;have p:J k≠J bt:=λe=>n ZgH;have r:shs≠[]->∀g o cap,v=.slice (J ⟨g,o,U⟩) (I shs) cap->J g≠J bt:=λL g o cap e O=>q L g o cap e ZgH;have h:∀W',Below (xz<|xj W) W W'->Shps W' shs k v:=λW' d=>D.grown (Te d U) Z1 (λ_ _ _ _ _=>Z1);have f:∀W',Below (xz<|xj W) W W'->W'.heap[bt]?=J (.cells #[.int .i64 t] 3 (0,0)):=λW' d=>(d.block _<|Y1 A).trans A;by_cases l:(adr x).2=0;unfold Wm;rw[ZhS ⟨rfl,l⟩];cases j:shs[t]? with
 |none=>
  have:t=I shs:=by have:=ZjV.1 j;omega
  subst this;refine(FX W _ ws g o cap y w a x z l λW' d=>Z4m W' shs bt k v B (h W' d)<|f W' d).mono ?_;rintro e W' ⟨rfl,d⟩;exact⟨Te d _,rfl⟩
 |some s=>
  simp only;cases u:Yv s.1 s.2;refine(FX W _ ws g o cap y w a x z l λW' d=>Z4l W' shs bt k t v s B (h W' d) (f W' d) j u).mono ?_;rintro e W' ⟨rfl,d⟩;exact⟨Te d _,Z1⟩;refine(Z2M W _ ws g o cap y w a x z l bt _ s.1 s.2 (Y1 A) λW' d=>Z4n W' shs bt k t v s B (h W' d) (f W' d) j u n<|q (λe=>ZgI)).mono ?_;rintro e W' ⟨rfl,C,G⟩;have K:=(ZhH.1 j).1;refine⟨C,?_⟩;simp only[ZiC];exact⟨trivial,G,D.grown C p r,Z0⟩
 refine(Z2O W _ _ ws g o cap y w a x z l).mono ?_;rintro e W' ⟨rfl,d⟩;refine⟨Te d _,?_⟩;unfold Wm R3;rw[ZhP (λH=>l H.2)];by_cases N:(ZR x).2.2=0;simp only[N,ZiC];exact⟨trivial,f W' d,h W' d,M⟩;simp_all
end Vm
end
section
namespace Vm
open Go Go.Proofs Go.RowKit Go.Shelf
def EK(a:Nat)(W:World):Prop:=∀k,UU W a=J k->k<xz (xj W)
def Si{A B C:World}{r}(h:A.grownBy B r)(k:B.grownBy C r):A.grownBy C r:=
 ⟨k.os.trans h.os,k.tape.trans h.tape,k.output.trans h.output,Zif h.size k.size,λi a d=>(k.block i (ZhO a h.size) d).trans<|h.block i a d⟩
def ZbG ws shs old{a t g x d}(hx:ws[a]?=J x)(h:Wm shs old a t x=J (d,g)){f pre}:
  Xs ws shs old (f+1) a t pre=if(I ws:Int)<a+1+d.size then([],2)else if Xw ((ws.drop<|a+1).take d.size.toNat) d.gone d.Y 0=xw then([],3)else Xs ws shs old f (a+1+d.size.toNat) g (pre++[d]):=by
 simp_all[Xs]
def Z3C(n:Nat){w:World}{ws:List Int}{g o cap bw bg base z:Nat}{bt:Option Nat}{sv gv:Value}{shs:List (Int×Int)}{old:Bool}{K:Nat->World->Prop}(e0:Stat6 ws g o cap sv bw bg base z bt gv w)
  (f2:z<base) (b2:J z≠bt) (a9:zw ws g o cap gv shs old bt K) (d7:K 0 w) (a6:∀t W W',K t W->Below (xz<|xj W) W W'->K t W') (d8:∀t W W',K t W->KpW z base W W'->K t W'):
  EM Fence.wide n xP 100 #[.pointer<|J ⟨bw,0,U⟩,.pointer<|J ⟨bg,0,U⟩] (λd:Ob=> #[WO d]) (KpW z base) (yg ws shs old K) (Z3F ws shs old) (I ws) bt (EK z) w:=by
 intro l h W hW d6 hJ hY h0;refine callsIn_of_wp ER rfl trivial ?_ rfl;simp only[Tryz.ntmps100,Zja,ZiW,ZiQ,Nat.reduceAdd,Nat.reduceSub,Zjx,Zjy,Zk1,ZjF,ZiB,Zj5];have c7:=ZhK<|e0.grown<|Te hW bt;have b9:=ZhK<|a6 0 w W d7 hW;have b7:=ZhK h0;clear h0;gi_wp2
 gi_loopw [4] (λp wr=>∃(a t f:Nat) (pre:List Ob),p=.int .i64 a/\Hid (h pre wr/\K t wr/\Stat6 ws g o cap sv bw bg base z bt gv wr/\I ws<f+a/\0<f/\a<=I ws/\I pre<=a/\ZP ws shs old=Xs ws shs old f a t pre))
  (λp _=>I ws- (intOf p).toNat)
 case atStart=>exact⟨0,0,I ws+1,[],rfl,ZhK ⟨b7.out,b9.out,c7.out,Z0,Z0,Z0,Z1,rfl⟩⟩
 case round=>
  obtain⟨a,t,f,pre,rfl,j⟩:=hrel;have k:=j.out.2.2.1;have a1:=k.vk;have c1:wr.cell? ⟨bw,0,U⟩=J sv:=by rw[ZhQ _ _ _ _ _ _ k.th];rfl
  have c2:wr.cell? ⟨bg,0,U⟩=J gv:=by rw[ZhQ _ _ _ _ _ _ k.vc];rfl
  have e3:=k.words.len;clear k;by_cases b1:a<I ws
  .obtain⟨x,hx⟩:∃x,ws[a]?=J x:=⟨_,ZhG b1⟩;obtain rfl:sv=.slice (J ⟨g,o,U⟩) (I ws) cap:=a1.resolve_right (λh=>ZgI);clear a1;have e4:((a:Int)<I ws)=True:=Zk3 Z0;have hb:=a9 wr a t x j.out.2.2.1.words (by have:=j.out.2.2.1.lt;omega) j.out.2.1 hx;cases ho:Wm shs old a t x with
   |none=>
    rw[ho]at hb;have HX:=ZhK hb;clear hb;gi_wp2
    refine⟨trivial,λh=>ZgY,(ZjQ.2 HX.out).mono ?_⟩;rintro e w1 ⟨y,rfl⟩;have H:=ZhK y;clear y;gi_wp2
    refine⟨rfl,.inr ⟨_,pre,rfl,⟨3,.inr rfl,rfl,?_⟩,hJ _ _ _ _ j.out.1 H.out<|λr e=>e.symm⟩⟩;obtain⟨_,_,_,hf,N,_,_,L⟩:=j.out;cases f with
    |zero=>omega
    |succ f=>
     simp_all[Xs]
   |some q=>
    obtain⟨d,t'⟩:=q;rw[ho]at hb;have HX:=ZhK hb;clear hb;obtain⟨a0,B⟩:=qo ho;gi_wp2
    refine⟨trivial,λh=>ZgY,(ZjQ.2 HX.out).mono ?_⟩;rintro e w1 ⟨y,rfl,b0⟩;have H:=ZhK y;have c0:=ZhK b0;have M:=j.out.2.2.1.grown y;have e9:=ZhK M;have e1:∀O,(w1.alloc O).cell? ⟨bw,0,U⟩=J (.slice (J ⟨g,o,U⟩) (I ws) cap):=λO=>by
     rw[Zj7 _ _ _<|Y1 M.th,ZhQ _ _ _ _ _ _ M.th];rfl
    have Z:wr.grownBy (w1.alloc<|.cells #[.int .i64 a,.int .i64 d.size,.int .i64 d.Y,.bool d.gone,.int .u64 d.target] 122) bt:=Si y<|Zj2 _ _ _;have a8:=ZhK<|j.out.2.2.1.grown Z;have hh:=Z4u (w1.alloc<|.cells #[.int .i64 a,.int .i64 d.size,.int .i64 d.Y,.bool d.gone,.int .u64 d.target] 122) ws g o cap a8.out.words (by have:=a8.out.lt;omega) d a B b1 a0;unfold WO at hh;rw[B]at hh;have b5:=ZhK Z;have R:=ZhK hh;have G:∀f pre,Xs ws shs old (f+1) a t pre=_:=λf pre=>ZbG ws shs old hx ho (f:=f) (pre:=pre);have S:=ZhK G;clear y b0 M Z hh G hx;unfold WO;gi_wp2
    refine⟨trivial,λh=>ZgY,(ZjQ.2 R.out).mono ?_⟩;rintro e w2 ⟨rfl,C⟩;have A:wr.grownBy w2 bt:=Si b5.out<|Te C bt;have Q:=ZhK A;have b3:=ZhK C;unfold yF;by_cases T:(I ws:Int)<d.ab+1+d.size
    .rw[ZhS T];rw[B]at T;clear C A;gi_wp2
     refine⟨rfl,.inr ⟨_,pre,rfl,⟨2,.inl rfl,rfl,?_⟩,hJ _ _ _ _ j.out.1 Q.out<|λr e=>e.symm⟩⟩;obtain⟨_,_,_,hf,N,_,_,L⟩:=j.out;obtain⟨f,rfl⟩:∃f',f=f'+1:=⟨f-1,Z0⟩;rw[L,S.out,ZhS T]
    .rw[ZhP T];by_cases X:Xw ((ws.drop<|d.ab.toNat+1).take d.size.toNat) d.gone d.Y 0=xw
     .rw[ZhS X];rw[B]at T X;clear C A;gi_wp2
      refine⟨rfl,.inr ⟨_,pre,rfl,⟨3,.inr rfl,rfl,?_⟩,hJ _ _ _ _ j.out.1 Q.out<|λr e=>e.symm⟩⟩;obtain⟨_,_,_,hf,N,_,_,L⟩:=j.out;obtain⟨f,rfl⟩:∃f',f=f'+1:=⟨f-1,Z0⟩;rw[L,S.out,ZhP Z0];simp_all
     .rw[ZhP X];rw[B]at T X;simp only[Zi1]at X;have b6:=ZhK<|And.intro T X;have Y:=hJ _ _ _ _ j.out.1 A (λr e=>e.symm);have e7:=ZhK Y;have d5:=ZhK<|j.out.2.2.1.grown A;have u:w2.heap[xz<|xj w1]?=J (.cells #[.int .i64 a,.int .i64 d.size,.int .i64 d.Y,.bool d.gone,.int .u64 d.target] 122 (0,0)):=(C.block _ Z1).trans<|Zi7 w1 _;have b4:=ZhK u;obtain⟨fn,e6,assign,e2,hy,L⟩:=hY pre d w2 Y (by have:=j.out.2.2.2.2.2.2.1;omega);unfold WO at hy;rw[B]at hy;have d0:w2.cell? ⟨xz<|xj w1,0,U⟩=J (.int .i64 a):=Zh8;have d1:w2.cell? ⟨xz<|xj w1,1,U⟩=J (.int .i64 d.size):=Zh8;have d2:w2.cell? ⟨xz<|xj w1,2,U⟩=J (.int .i64 d.Y):=Zh8;have d3:w2.cell? ⟨xz<|xj w1,3,U⟩=J (.bool d.gone):=Zh8;have d4:w2.cell? ⟨xz<|xj w1,4,U⟩=J (.int .u64 d.target):=Zh8;clear C A Y u;gi_wp2
      refine⟨λh=>ZgY,L.mono ?_⟩;rintro e W3 ⟨rfl,a3,D⟩;have b8:=ZhK a3;have e8:=ZhK D;have F:UU w2 z≠J (xz<|xj w1):=by
       intro e;have d9:z<xz (xj wr):=by have:=j.out.2.2.1.lt.2.2.2;omega
       have:UU w2 z=UU wr z:=by
        unfold UU;rw[Ziz (a:=⟨z,0,U⟩)<|Q.out.block z d9 b2]
       rw[this]at e;have:=d6 _ _ j.out.1 _ e;have:=H.out.size;omega
      have P:=D.same _ _ b4.out rfl (by have:=j.out.2.2.1.lt.2.2.2;have:=H.out.size;omega)<|.inr F;have f1:W3.cell? ⟨xz<|xj w1,1,U⟩=J (.int .i64 d.size):=by rw[ZhQ _ _ _ _ _ _ P];rfl
      have a7:=d5.out.kp D;have a4:K t' w2:=a6 _ _ _ c0.out<|((ZhY _ _).alloc (ZhL _) _).trans<|b3.out.mono Z1;have a5:=d8 _ _ _ a4 D;have a2:=ZhK<|And.intro a7 a5;obtain⟨m,hm⟩:∃m:Nat,d.size=m:=⟨d.size.toNat,by have:=(Yz.1 a0).1;omega⟩;rw[hm]at f1;have f4:(m:Int)<=255:=by have:=(Yz.1 a0);omega
      have q1:IntKind.i64.wrap (1+(m:Int))=((1+m:Nat):Int):=ZgR;have q2:IntKind.i64.wrap ((a:Int)+((1+m:Nat):Int))=((a+(1+m):Nat):Int):=ZgR;clear a3 D P a7 a4 a5 F;clear X;gi_wp2
      obtain⟨_,_,_,hf,N,f0,f5,L⟩:=j.out;obtain⟨f,rfl⟩:∃f',f=f'+1:=⟨f-1,Z0⟩;rw[S.out,ZhP Z0,ZhP b6.out.2]at L;have f3:a+1+m<=I ws:=Z0;refine⟨⟨a+(1+m),t',f,pre++[d],Z1,ZhK ⟨b8.out,a2.out.2,a2.out.1,Z0,Z0,Z0,ZgJ,?_⟩⟩,by grind [intOf]⟩;grind
  .have e5:((a:Int)<I ws)=False:=Zjv Z0
   have HE:Hid<|yg ws shs old K pre wr:=ZhK (by
    obtain⟨_,hK,_,hf,N,_,_,L⟩:=j.out;refine⟨t,hK,?_⟩;cases f with
    |zero=>omega
    |succ f=>
     simp_all[Xs,ZiM])
   obtain⟨sa,sc,rfl⟩:∃sa sc,sv=.slice sa (I ws) sc:=by
    grind
   clear a1;gi_wp2
   go_end0
   exact .inl ⟨_,pre,rfl,HE.out,j.out.1⟩
end Vm
namespace Vm
open Go Go.Proofs Go.RowKit Go.Shelf
def Z3D(w:World)(g d:Value)(k:∃a n c,g=.slice a n c)(h:d=.nilFunc\/∃f vs,d=.func (.func f) #[] vs):
  Calls xP 99 #[g,d] w λe l=>e=.returned (.func (.func 100) #[] #[.pointer<|J ⟨xz<|xj w,0,U⟩,.pointer<|J ⟨xz (xj w)+1,0,U⟩])/\
   l=(w.alloc<|.cells #[g] 28).alloc (.cells #[d] 182):=by
 have j:∀(fn:Go.Fn) (first cap:Array Value) (w:World),(Instr.makeFunc fn first cap).run xP w=.ok (.func fn first cap) w:=λ_ _ _ _=>rfl;obtain⟨a,n,c,rfl⟩:=k;obtain rfl|⟨f,vs,rfl⟩:=h
 .go_enter A0,Tryz.ntmps99;go_wp2;exact Zie (results_tmp rfl _ _ _) rfl ⟨rfl,rfl⟩
 .go_enter A0,Tryz.ntmps99;go_wp2;exact Zie (results_tmp rfl _ _ _) rfl ⟨rfl,rfl⟩
def Z6W w:Sem.run xP (binOp .neq 20 .nilIface .nilIface) w=.ok (.bool xw) w:=Zhw
def Z6X w T v:Sem.run xP (binOp .neq 20 (.iface T v) .nilIface) w=.ok (.bool xk) w:=Zhw
def Zbh(w:World)(x:Int):Sem.run xP (Instr.typeAssert (.iface 181<|.agg #[.int .i64 x]) 20 181 xk) w=.ok (.tuple #[.agg #[.int .i64 x],.bool xk]) w:=Zhw
def Z3h(n:Nat)(p q:Addr)(w:World):
  CallsDIn Fence.wide n xP 98 #[.pointer<|J p,.pointer<|J q] .returning w λe f g=>e=.returned (.tuple #[])/\f=.returning/\g=w:=by
 have j:=Z6W;refine callsDIn_of_wpSIn jZ rfl trivial λa h d=> ?_;simp only[Tryz.ntmps98,Zja,ZiW,ZiQ,Nat.reduceAdd,Nat.reduceSub,Zjx,Zjy,Zk1,ZjF,ZiB,Zj5];apply wpSIn_seq;apply wpSIn_region;simp[wpOpsSIn,go_sem,recoverD,d,Exit.thenS];refine wpSIn_of_wpIn rfl ?_;gi_wp2
 cases a;simp_all [bodyPostS,results,Tryz.results98]
def Z3i(n:Nat)(a d:Nat)(x:Int)(w:World)(z l:Value)(f:Boxed w a 108 z)(g:Boxed w d 35 l)(h:a≠d):
  CallsDIn Fence.wide n xP 98 #[.pointer<|J ⟨a,0,U⟩,.pointer<|J ⟨d,0,U⟩] (.panicking<|Vu x) w λe y j=>
   e=.returned (.tuple #[])/\y=.panicking [{v:=.iface 181<|.agg #[.int .i64 x],recovered:=xk}]/\
   Boxed j a 108 (.slice U 0 0)/\Boxed j d 35 (.int .i64 x)/\(xz (xj w)<=xz (xj j)/\∀k,k<xz (xj w)->k≠a->k≠d->j.heap[k]?=w.heap[k]?)/\j.os=w.os/\j.tape=w.tape/\j.output=w.output:=by
 have C:=Z6X;have D:=Zbh;have P:=(f.alloc<|.cells #[.int .i64 x] 181).cell;have p2:=(f.alloc<|.cells #[.int .i64 x] 181).frozen;have Q:=(g.alloc<|.cells #[.int .i64 x] 181).cell;have R:=(g.alloc<|.cells #[.int .i64 x] 181).frozen;have p3:=f.cell;have p4:=f.frozen;have S:=g.cell;have T:=g.frozen;have H:=f.lt;have K:=g.lt;have t:¬a=d:=h;have u:¬d=a:=λe=>h e.symm;have L:¬a=xz (xj w):=Z0;have M:¬xz (xj w)=a:=Z0;have N:¬d=xz (xj w):=Z0;have O:¬xz (xj w)=d:=Z0;have o:=ZhK<|And.intro f g;clear f g h;refine callsDIn_of_wpSIn jZ rfl trivial λB A r=> ?_;simp only[Tryz.ntmps98,Zja,ZiW,ZiQ,Nat.reduceAdd,Nat.reduceSub,Zjx,Zjy,Zk1,ZjF,ZiB,Zj5];apply wpSIn_seq;apply wpSIn_region;simp[wpOpsSIn,go_sem,recoverD,r,Vu,Exit.thenS];refine wpSIn_of_wpIn rfl ?_;gi_wp2
 gi_region
 all_goals gi_wp2
 obtain⟨f,g⟩:=o.out;have p:Boxed ((w.setCell ⟨a,0,U⟩<|.slice U 0 0).setCell ⟨d,0,U⟩<|.int .i64 x) a 108<|.slice U 0 0:=(Zi0 _ ⟨d,0,U⟩ _ a t).trans<|f.set _;have q:Boxed ((w.setCell ⟨a,0,U⟩<|.slice U 0 0).setCell ⟨d,0,U⟩<|.int .i64 x) d 35<|.int .i64 x:=Boxed.set _ (show Boxed (w.setCell ⟨a,0,U⟩<|.slice U 0 0) d 35 l from(Zi0 _ ⟨a,0,U⟩ _ d u).trans g);refine⟨rfl,_,rfl,_,by simp[results,Tryz.results98],rfl,rfl,p.alloc _,q.alloc _,⟨?_,λk F k1 G=> ?_⟩,rfl,rfl,rfl⟩;simp;show(World.alloc _ _).heap[k]?=_;grind [Below.heap_alloc,World.setCell,Below.heap_setCell]
end Vm
namespace Vm
open Go Go.Proofs Go.RowKit Go.Shelf
def TT(a:Ob):List Value:=[.int .i64 a.ab,.int .i64 a.size,.int .i64 a.Y,.bool a.gone,.int .u64 a.target]
def WX(l:List Ob):List Value:=l.flatMap TT
def Z7j l x:WX (l++[x])=WX l++TT x:=by simp[WX]
structure WIv (w:World) (bt:Option Nat) (pre:List Ob) (W:World):Prop where
 row:∃v,Boxed W (xz<|xj w) 108 v/\W.ownsRow (xz (xj w)+4) 122 5 v (I pre) (WX pre)
 e:Boxed W (xz (xj w)+1) 35<|.int .i64 0
 gr:w.grownBy W bt
 size:xz (xj w)+4<=xz (xj W)
def Tf{w X Y:World}{bt row}(h:w.grownBy X bt)(k:X.grownBy Y row)(f:∀r,row=J r->J r=bt\/xz (xj w)<=r):w.grownBy Y bt:=
 ⟨k.os.trans h.os,k.tape.trans h.tape,k.output.trans h.output,Zif h.size k.size,λi a d=>
  (k.block i (ZhO a h.size) ZgH).trans (h.block i a d)⟩
theorem jj{W b t v}(h:Boxed W b t v):UU W b=v.ownBlock:=by
 unfold UU;rw[h.cell];rfl
def WIv.ua{w bt pre W}(h:WIv w bt pre W):EK (xz<|xj w) W:=by
 let⟨v,f,d⟩:=h.row;intro k a;rw[jj f]at a;exact(d.lt k a).2
def WIv.own{w bt}(u:∀r,bt=J r->r<xz (xj w)):OwnP bt (xz (xj w)+4)<|WIv w bt:=by
 intro s X Y row h d p;have y:∀k,xz (xj w)<=k->k<xz (xj w)+4->J k≠row:=by
  intro k t A e;obtain j|⟨j,_⟩:=p k e.symm;grind;omega
 let⟨v,z,a⟩:=h.row;refine⟨⟨v,z.kept d ZgI,a.kept d ?_⟩,h.e.kept d ZgI,Tf h.gr d λr e=>ZgH,Zif h.size d.size⟩;cases l:v.ownBlock with
 |none=>simp
 |some b=>
  refine .inr λe=> ?_;have t:=a.lt b l;obtain j|⟨_,o,n,x⟩:=p b e.symm;grind;obtain⟨rfl,_⟩|⟨g,cap,q,rfl,_,f,_⟩:=a.2;simp[Value.ownBlock]at l;obtain rfl:g=b:=by grind [Value.ownBlock]
  rw[f]at n;cases n;cases x
def WIv.appended{w W w1:World}{bt:Option Nat}{pre:List Ob}{x:Ob}{v v':Value}{tmp:Obj}(C:∀r,bt=J r->r<xz (xj w))(h:WIv w bt pre W)(A:Boxed W (xz<|xj w) 108 v)
  (g:W.ownsRow (xz (xj w)+4) 122 5 v (I pre)<|WX pre) (d:w1.ownsRow (xz (xj w)+4) 122 5 v' (I pre+1)<|WX pre++TT x)
  (a:(W.alloc tmp).grownBy w1 v.ownBlock) (f:v'.ownBlock=v.ownBlock\/v'.ownBlock=J (xz<|xj<|W.alloc tmp)):
  Boxed w1 (xz<|xj w) 108 v/\KeepsFrom (xz (xj w)+4) W (w1.setCell ⟨xz<|xj w,0,U⟩ v')/\KpW (xz<|xj w) (xz (xj w)+4) W (w1.setCell ⟨xz<|xj w,0,U⟩ v')/\WIv w bt (pre++[x]) (w1.setCell ⟨xz<|xj w,0,U⟩ v'):=by
 have u:=h.size;obtain⟨y,l,F,j,B⟩:=A.appended ZgV (qC g (B':=xz<|xj w) Z0) Z0 (ZhL _) (qC d (B':=xz<|xj w) Z0) a;have z:∀b,v.ownBlock=J b->xz (xj w)+4<=b:=λb p=>(g.lt b p).1
 have t:(w1.setCell ⟨xz<|xj w,0,U⟩ v').ownsRow (xz (xj w)+4) 122 5 v' (I pre+1)<|WX pre++TT x:=d.kept (Zkb w1 (xz<|xj w) v') (by
  cases p:v'.ownBlock with
  |none=>simp
  |some b=>exact .inr λe=>by have G:=(d.lt b p).1;grind)
 refine⟨y,j.from _,⟨j.size,λk o n H D K=> ?_,λk n e=> ?_⟩,⟨v',l,?_⟩,?_,?_,Zif u j.size⟩;rw[Zi0 _ _ _ _ D,a.block k (by have:=Y1 n;simp;omega) (λe=> ?_),ZhU _ _ _<|Y1 n,n];grind [jj,trans];rw[jj l]at e;rw[jj A];obtain f|f:=f;simp_all;rw[f]at e;simp at e;omega;simp_all[Zin,Z7j];have q:Boxed w1 (xz (xj w)+1) 35<|.int .i64 0:=(h.e.alloc tmp).kept a (λe=>ZgH);exact(Zi0 _ _ _ _ Z1).trans q;refine Tf (Tf (Tf h.gr (Zj2 W tmp U) Z1) a λr e=>.inr ?_) (Zkb w1 (xz<|xj w) v') λr e=>.inr ?_;grind;simp_all
def KpW.alloc{a base W}o(d:a<xz (xj W)):KpW a base W<|W.alloc o:=by
 refine⟨Z1,λk h f _ _ _=>(ZhU _ _ _ ZgH).trans f,λk _ g=> ?_⟩;simp_all[UU,Zj7]
end Vm
namespace Vm
open Go Go.Proofs Go.RowKit Go.Shelf
attribute [local go_sem] Oper.semAt_some
def Z5I:(xP.info? 122).map (λi=>(i.zero,i.size,i.bytes))=J (J<|.agg #[.int .i64 0,.int .i64 0,.int .i64 0,.bool xw,.int .u64 0],5,40):=Z2
def unO:xP.underlying 108=J (.slice 122):=Z2
def Z3m(w:World)a b c d e t:∀j u,[a,b,c,d,e][j]?=J u->(w.alloc<|.cells #[a,b,c,d,e] t).cell? ((⟨xz<|xj w,0,U⟩:Addr).add j)=J u:=by
 intro j u h;have:=ZhQ _ _ j _ _ _<|Zi7 w<|.cells #[a,b,c,d,e] t;grind [Addr.add]
def Fq(w:World)(ws:List Int)(shs:List<|Int×Int)(old:Bool)(bt:Option Nat)(K:Nat->World->Prop)(e:Ending)(W:World):Prop:=
 ∃v n a,e=.returned (.tuple #[v,.int .i64 n])/\w.grownBy W bt/\W.ownsRow (xz (xj w)+4) 122 5 v (I a) (WX a)/\((n=0/\yg ws shs old K a W)\/((n=2\/n=3)/\a=[]/\ZP ws shs old=([],n)))
def Z0l{w:World}{ws:List Int}{g o cap:Nat}{bt:Option Nat}{p j:Value}{shs:List (Int×Int)}{old:Bool}{K:Nat->World->Prop}(hw:Words w ws g o cap)
  (b5:p=.slice (J ⟨g,o,U⟩) (I ws) cap\/(ws=[]/\∃a c,p=.slice a 0 c)) (hg:(ws≠[]->g<xz (xj w))/\g<xz (xj w)+4/\g≠xz (xj w)) (d6:j=.nilFunc\/∃f vs,j=.func (.func f) #[] vs)
  (a0:∀r,bt=J r->r<xz (xj w)) (d5:J g≠bt) (a6:zw ws g o cap j shs old bt K) (b6:K 0 w)
  (z:∀t A B row,K t A->A.grownBy B row->(∀r,row=J r->xz (xj w)<=r)->K t B)
  (b8:∀bl base t A B,xz (xj w)<=bl->xz (xj w)<=base->K t A->KpW bl base A B->K t B):
  Calls xP 95 #[p,j] w (Fq w ws shs old bt K):=by
 refine(ZjQ (n:=5)).1 ?_;have f9:∀(fn:Go.Fn) (first cap:Array Value) (w:World),(Instr.makeFunc fn first cap).run xP w=.ok (.func fn first cap) w:=λ_ _ _ _=>rfl;have e0:∃a n c,p=.slice a n c:=by
  obtain rfl|⟨_,a,c,rfl⟩:=b5;simp;simp
 refine callsIn_of_wp_marks Fk rfl trivial ?_ rfl;simp only[Tryz.ntmps95,Zja,ZiW,ZiQ,Nat.reduceAdd,Nat.reduceSub,Zjx,Zjy,Zk1,ZjF,ZiB,Zj5];have he:=λW=>Z3D W p j e0 d6;gi_wp2
 refine⟨trivial,(ZjQ.2<|he _).mono ?_⟩;rintro e w1 ⟨rfl,rfl⟩;gi_wp2
 have a2:∀b:Nat,b<xz (xj w)->((((w.alloc<|Obj.cells #[.slice U 0 0] 108).alloc<|.cells #[.int .i64 0] 35).alloc<|.cells #[p] 28).alloc<|.cells #[j] 182).heap[b]?=w.heap[b]? :=λb hb=>by
  grind [Below.heap_alloc]
 have b0:Boxed ((((w.alloc<|Obj.cells #[.slice U 0 0] 108).alloc<|.cells #[.int .i64 0] 35).alloc<|.cells #[p] 28).alloc<|.cells #[j] 182) (xz<|xj w) 108<|.slice U 0 0:=(((Boxed.new w _ _).alloc _).alloc _).alloc _;have b1:Boxed ((((w.alloc<|Obj.cells #[.slice U 0 0] 108).alloc<|.cells #[.int .i64 0] 35).alloc<|.cells #[p] 28).alloc<|.cells #[j] 182) (xz (xj w)+1) 35<|.int .i64 0:=by
  have:=((Boxed.new (w.alloc<|Obj.cells #[.slice U 0 0] 108) 35<|.int .i64 0).alloc<|.cells #[p] 28).alloc<|.cells #[j] 182;rwa[ZjM]at this
 have b2:Boxed ((((w.alloc<|Obj.cells #[.slice U 0 0] 108).alloc<|.cells #[.int .i64 0] 35).alloc<|.cells #[p] 28).alloc<|.cells #[j] 182) (xz (xj w)+2) 28 p:=by
  have:=(Boxed.new ((w.alloc<|Obj.cells #[.slice U 0 0] 108).alloc<|.cells #[.int .i64 0] 35) 28 p).alloc<|.cells #[j] 182;simp_all
 have b3:Boxed ((((w.alloc<|Obj.cells #[.slice U 0 0] 108).alloc<|.cells #[.int .i64 0] 35).alloc<|.cells #[p] 28).alloc<|.cells #[j] 182) (xz (xj w)+3) 182 j:=by
  have:=Boxed.new (((w.alloc<|Obj.cells #[.slice U 0 0] 108).alloc<|.cells #[.int .i64 0] 35).alloc<|.cells #[p] 28) 182 j;simp_all
 have L:w.grownBy ((((w.alloc<|Obj.cells #[.slice U 0 0] 108).alloc<|.cells #[.int .i64 0] 35).alloc<|.cells #[p] 28).alloc<|.cells #[j] 182) bt:=⟨rfl,rfl,rfl,ZgJ,λk hk _=>a2 k hk⟩;have P:xz (xj<|(((w.alloc<|Obj.cells #[.slice U 0 0] 108).alloc<|.cells #[.int .i64 0] 35).alloc<|.cells #[p] 28).alloc<|.cells #[j] 182)=xz (xj w)+4:=Z1;generalize f7:(((w.alloc<|Obj.cells #[.slice U 0 0] 108).alloc<|.cells #[.int .i64 0] 35).alloc<|.cells #[p] 28).alloc (.cells #[j] 182)=W0 at*;have e7:Stat6 ws g o cap p (xz (xj w)+2) (xz (xj w)+3) (xz (xj w)+4) (xz<|xj w) bt j W0:=by
  refine⟨⟨λi x F=> ?_,hw.le,hw.cap,hw.len,hw.u64⟩,b5,b2,b3,λhn=> ?_,⟨Z0,Z0,Z0,Z0⟩,⟨Z0,Z0,Z0⟩,d5,?_,?_⟩;rw[<-hw.ab i x F];grind [World.cell?_of_block];obtain⟨x,F⟩:∃x,ws[0]?=J x:=by cases ws with|nil=>simp_all|cons x l=>simp
  have:=hw.ab 0 x F;rw[a2 g<|hg.1 hn];unfold World.cell? at this;cases hh:w.heap[g]? with
  |none=>simp_all
  |some ob=>
   refine⟨ob,rfl,?_⟩;grind [Obj.isCells]
  grind;grind
 have a5:K 0 W0:=z 0 w W0 U b6 ⟨L.os,L.tape,L.output,L.size,λk hk _=>a2 k hk⟩ Z1;have b4:=Z3C 4 e7 Z0 (λe=>ZgH) a6 a5 (λt A B hA O=>z t A B U hA ⟨O.os,O.tape,O.output,O.size,λk hk _=>O.block k hk⟩ Z1) (λt A B hA O=>b8 _ _ t A B (ZhL _) Z0 hA O)
 refine ZbS rfl Z0 (gf:=100) (lb:=#[.pointer<|J ⟨xz (xj w)+2,0,U⟩,.pointer<|J ⟨xz (xj w)+3,0,U⟩]) rfl trivial (enters_of ER Z2 rfl)
  b4 (λr e=>ZgH) KpW.trans (λW l o o' h1 h2 h3 _=>KpW.put o' h2 h3 Z0) (ZhY _ _) (λ_=>rfl)
  (WIv w bt) (P▸WIv.own a0) (λpre W h=>h.ua) ⟨⟨_,b0,Zj6 _ _ _ _⟩,b1,L,Z0⟩ ?hS
  (λx a' W=>∃y,xz (xj w)+4<=y/\W.heap[y]?=J (.cells #[.int .i64 x.ab,.int .i64 x.size,.int .i64 x.Y,.bool x.gone,.int .u64 x.target] 122 (0,0))/\
   a'= {tmps:=#[p,j,xy,xy,.pointer<|J ⟨xz<|xj w,0,U⟩,.pointer<|J ⟨xz (xj w)+1,0,U⟩,.pointer<|J ⟨y,0,U⟩,
    .func (.func 98) #[] #[.pointer<|J ⟨xz<|xj w,0,U⟩,.pointer<|J ⟨xz (xj w)+1,0,U⟩],p,j,.func (.func 100) #[] #[.pointer<|J ⟨xz (xj w)+2,0,U⟩,.pointer<|J ⟨xz (xj w)+3,0,U⟩],WO x,xy,xy,xy,xy,xy],defers:=[]})
  ?hAx ?assign ?body ?done ?panic
 case hS=>
  rintro u X Y row ⟨t,hK,hR⟩ M d;exact⟨t,z t X Y row hK M λr e=>(d r e).elim (λe2=>by cases e2) (λe2=>Z0),hR⟩
 case hAx=>
  rintro x a' s X Y row ⟨y,O,F,ha⟩ M d;refine⟨y,O,(M.block y (Y1 F) λe=> ?_).trans F,ha⟩;obtain e2|⟨_,o2,h2,h3⟩:=d y e.symm;cases e2;rw[F]at h2;cases h2;cases h3
 case assign=>
  rintro l pre x W K2 q b7;simp only[List.zip_cons_cons,Array.zip,WO];gi_wp2
  exact b7 _ _ ((KeepsOthers.alloc W _).from _) (KpW.alloc _ (by have:=q.size;omega)) ((WIv.own a0).alloc _ q) ⟨xz<|xj W,q.size,Zi7 W _,rfl⟩
 case body=>
  rintro l pre x a' W q ⟨y,f6,F,rfl⟩ a8;obtain⟨v,Q,d⟩:=q.row;obtain⟨i0,d7,e8,e9,f2⟩:=info_parts Z5I;obtain⟨G,H,rfl⟩:=Xl d;have c1:=Q.cell;have c2:=Q.frozen;have d0:W.cell? ⟨y,0,U⟩=J (.int .i64 x.ab):=Zh5;have d1:W.cell? ⟨y,1,U⟩=J (.int .i64 x.size):=Zh5;have d2:W.cell? ⟨y,2,U⟩=J (.int .i64 x.Y):=Zh5;have d3:W.cell? ⟨y,3,U⟩=J (.bool x.gone):=Zh5;have d4:W.cell? ⟨y,4,U⟩=J (.int .u64 x.target):=Zh5;have g4:I pre<=1000000:=Zif (Nat.le_of_lt a8) hw.len;have f5:=q.size;have HA:=λtmp w1 v'=>WIv.appended (W:=W) (w1:=w1) (x:=x) (v':=v') (tmp:=tmp) a0 q Q d;gi_wp2_with (gi_at_builtin;refine wpListIn_append_own_at _ rfl _ _ 108 rfl (xz (xj w)+4) 122 i0 _ 5 40 unO d7 e8 e9 f2 rfl ZgV _ _ _ rfl (d.alloc _) ⟨xz<|xj W,0,U⟩ 1 1 (TT x) rfl rfl (Z3m _ _ _ _ _ _ _) (by simp[TT,Value.oneCell']) (by grind [maxLen]) Z0 ZgJ ?_;intro v' w1 N a1 _ c0;obtain⟨g',f4,rfl⟩:=ownsRow_succ N;obtain⟨e1,e2,e3,e4⟩:=HA _ _ _ N a1 c0;have e5:=e1.cell;have e6:=e1.frozen)
  rw[P];exact⟨e2,e3,e4⟩
 case done=>
  rintro D u W hD hS q Z;obtain⟨v,Q,d⟩:=q.row;obtain⟨G,H,rfl⟩:=Xl d;have c1:=Q.cell;have c2:=Q.frozen;have c3:=q.e.cell;have c4:=q.e.frozen;rw[P]at hD;gi_wp2
  have a4:((W.setCell ⟨xz<|xj w,0,U⟩<|.slice G (I u) H).setCell ⟨xz (xj w)+1,0,U⟩<|.int .i64 0).heap[D]?=J (.deferred<|J []):=by
   rw[Zi0 _ _ _ _ ZgH,Zi0 _ _ _ _ ZgH];exact Z
  have f0:Boxed ((W.setCell ⟨xz<|xj w,0,U⟩<|.slice G (I u) H).setCell ⟨xz (xj w)+1,0,U⟩<|.int .i64 0) (xz<|xj w) 108<|.slice G (I u) H:=
   (Zi0 _ _ _ _ Z1).trans (Q.set _)
  have f1:Boxed ((W.setCell ⟨xz<|xj w,0,U⟩<|.slice G (I u) H).setCell ⟨xz (xj w)+1,0,U⟩<|.int .i64 0) (xz (xj w)+1) 35<|.int .i64 0:=
   Boxed.set _ (show Boxed (W.setCell ⟨xz<|xj w,0,U⟩<|.slice G (I u) H) (xz (xj w)+1) 35 (.int .i64 0)from(Zi0 _ _ _ _ Z1).trans q.e)
  have g1:=Zkb W (xz<|xj w)<|.slice G (I u) H;have g2:=Zkb (W.setCell ⟨xz<|xj w,0,U⟩<|.slice G (I u) H) (xz (xj w)+1)<|.int .i64 0;have R:=d.lt
  have r2:=(d.kept g1 (by
   cases hb:(Value.slice G (I u) H).ownBlock with
   |none=>simp
   |some b=>exact .inr λe=>by have:=(R b hb).1;grind)).kept g2 (by
   cases hb:(Value.slice G (I u) H).ownBlock with
   |none=>simp
   |some b=>exact .inr λe=>by have:=(R b hb).1;grind)
  generalize f8:(W.setCell ⟨xz<|xj w,0,U⟩<|.slice G (I u) H).setCell ⟨xz (xj w)+1,0,U⟩ (.int .i64 0)=W2 at*;have g3:=ZkA W2 D<|.deferred U;have S:Boxed (W2.putObj D<|.deferred U) (xz<|xj w) 108<|.slice G (I u) H:=(Ziq Z0).trans f0;have T:Boxed (W2.putObj D<|.deferred U) (xz (xj w)+1) 35<|.int .i64 0:=(Ziq Z0).trans f1;have k0:=S.cell;have k1:=T.cell;refine⟨Z1,.inl ⟨D,_,rfl,ZkV a4,?_⟩⟩;refine⟨Z1,.inr ⟨λh=>ZgY,.func 98,_,98, #[.pointer<|J ⟨xz<|xj w,0,U⟩,.pointer<|J ⟨xz (xj w)+1,0,U⟩],rfl,Zhw,λ_ _=>trivial,?_⟩⟩;refine(Z3h _ _ _ _).mono ?_;rintro e u' f3 ⟨rfl,rfl,rfl⟩;refine⟨.tuple #[.slice G (I u) H,.int .i64 0],by simp[results,Tryz.results95,go_sem,k0,k1],?_⟩;obtain⟨t,hK,hR⟩:=hS;refine⟨_,0,u,rfl,Tf (Tf (Tf q.gr g1 λr e=>.inr ?_) g2 λr e=>.inr ?_) g3 λr e=>.inr ?_,ownsRow_putObj r2 _ a4 rfl,.inl ⟨rfl,t,z t _ _ _ (z t _ _ _ (z t _ _ _ hK g1 λr e=> ?_) g2 λr e=> ?_) g3 λr e=> ?_,hR⟩⟩;all_goals (grind)
 case panic=>
  rintro D chain pre W hD ⟨e,c7,rfl,b9⟩ q Z;rw[P]at hD;obtain⟨v,Q,d⟩:=q.row;have g3:=ZkA W D<|.deferred U;have S:Boxed (W.putObj D<|.deferred U) (xz<|xj w) 108 v:=(Ziq Z0).trans Q;have T:Boxed (W.putObj D<|.deferred U) (xz (xj w)+1) 35<|.int .i64 0:=(Ziq Z0).trans q.e;have C:w.grownBy (W.putObj D<|.deferred U) bt:=Tf q.gr g3 λr e=>.inr ZgH;refine⟨Z1,.inl ⟨D,_,rfl,ZkV Z,?_⟩⟩;refine⟨Z1,.inr ⟨λh=>ZgY,.func 98,_,98, #[.pointer<|J ⟨xz<|xj w,0,U⟩,.pointer<|J ⟨xz (xj w)+1,0,U⟩],rfl,Zhw,λ_ _=>trivial,?_⟩⟩;refine(Z3i _ (xz<|xj w) (xz (xj w)+1) e _ _ _ S T Z0).mono ?_;rintro e' u' f3 ⟨rfl,rfl,h0,h1,⟨d9,hk⟩,d8,a3,a9⟩;have k0:=h0.cell;have k1:=h1.cell;refine⟨.tuple #[.slice U 0 0,.int .i64 e],by simp[results,Tryz.results95,go_sem,k0,k1],?_⟩;refine⟨_,e,[],rfl,⟨d8.trans C.os,a3.trans C.tape,a9.trans C.output,Zif C.size d9,λk a7 hn=> ?_⟩,Zj6 _ _ _ _,.inr ⟨c7,rfl,b9⟩⟩;exact(hk k (ZhO a7 C.size) Z0 Z0).trans (C.block k a7 hn)
end Vm
namespace Vm
open Go Go.Proofs Go.RowKit Go.Shelf
theorem SA{w G k n v}(r:Rd w G (.int k n) v):v=.int k n:=by cases r;rfl
theorem OD{w G b v}(r:Rd w G (.bool b) v):v=.bool b:=by cases r;rfl
def Z0t{w G ws v}(r:Rd w G (.sl<|ws.map vu) v)(B:∀b,G b->b<xz (xj w))(u:I ws<=1000000)(y:∀x∈ws,ZB x)q:
  ∃g o cap,Words w ws g o cap/\(v=.slice (J ⟨g,o,U⟩) (I ws) cap\/(ws=[]/\∃a c,v=.slice a 0 c))/\((ws≠[]->g<xz (xj w))/\(g<(xz<|xj w)\/g=q)):=by
 generalize p:ws.map vu=L at r;cases r with
 |nil a cap C=>
  have:ws=[]:=ZgI;subst this;exact⟨q,0,0,⟨Z1,Z1,ZgH,Z1,Z1⟩,Z1,Z1,.inr rfl⟩
 |sl _ b o cap k vs d l A f h n=>
  subst p;simp only[Zia]at d h⊢;refine⟨b,o,cap,⟨λi x z=> ?_,d,l,u,y⟩,.inl rfl,ZgI,ZgI⟩;have j:(ws.map vu)[i]?=J (vu x):=by rw[Zi8,z];rfl
  have t:k=1:=((f _<|ZhR j).1).symm;subst t;have D:i<I ws:=ZgH;rw[h i Z0];have:=n i (vu x) (by have:=VR f j 0 Z0;simp_all);rw[SA this]
def Zar{w G shs v}(r:Rd w G (.sl<|shs.map Wf) v)(q:∀b,G b->b<xz (xj w)):
  (∃g o cap,v=.slice (J ⟨g,o,U⟩) (I shs) cap/\I shs<=cap/\cap<=maxLen/\g<xz (xj w)/\∀i x,shs[i]?=J x->w.cell? ⟨g,o+i*2,U⟩=J (.int .i64 x.1)/\w.cell? ⟨g,o+i*2+1,U⟩=J (.int .i64 x.2))\/
  (∃a cap,v=.slice a 0 cap/\shs=[]):=by
 generalize t:shs.map Wf=L at r;cases r with
 |nil a cap A=>
  simp_all
 |sl _ b o cap k vs h l n d p j=>
  subst t;simp only[Zia]at h p⊢;refine .inl ⟨b,o,cap,rfl,h,l,q b n,λi x u=> ?_⟩;have f:(shs.map Wf)[i]?=J (Wf x):=by rw[Zi8,u];rfl
  have C:k=2:=((d _<|ZhR f).1).symm;have B:i<I shs:=ZgH;have y:=j (i*2) (vi x.1) (by have:=VR d f 0 Z0;simp_all);have z:=j (i*2+1) (vi x.2) (by have:=VR d f 1 Z0;simp_all);grind [SA,Nat.add_assoc]
def Mz{w G}:∀l i c,(flat<|l.map ZO)[i]?=J c->Rd w G c ((WX l).getD i xy)
 | [],i,c,h=>ZgI
 |x::l,i,c,h=>by
  rw[Zii,Q4]at h;have e:WX (x::l)=TT x++WX l:=by simp[WX]
  by_cases d:i<5
  match i,d with
  |0,_=>simp at h;subst h;exact .int _ _
  |1,_=>simp at h;subst h;exact .int _ _
  |2,_=>simp at h;subst h;exact .int _ _
  |3,_=>simp at h;subst h;exact .bool _
  |4,_=>simp at h;subst h;exact .int _ _
  have a:(flat<|l.map ZO)[i-5]?=J c:=by
   rw[Zi3 ZgI]at h;simpa[ZO,V.cells]using h
  have:=Mz (w:=w) (G:=G) l _ c a;have f:(TT x++WX l).getD i xy=(WX l).getD (i-5) xy:=by
   simp[List.getD_eq_getElem?_getD];rw[Zi3 (by grind [TT])];simp[TT]
  simp_all
def Z7k(l:List Ob):∀x∈l.map ZO,V.an 5 x:=by
 intro x a;obtain⟨o,_,rfl⟩:=Zi4.1 a;exact⟨rfl,Z1⟩
def MA{w G B e v l}(h:w.ownsRow B e 5 v (I l)<|WX l)(q:∀c,B<=c->c<xz (xj w)->G c):Rd w G (.sl<|l.map ZO) v:=by
 have a:=h.1;obtain⟨rfl,p⟩|⟨g,cap,j,rfl,r,t,o,d,_⟩:=h.2;have:l=[]:=ZgI;subst this;exact .nil _ _ ZgH
 have:=Rd.sl (w:=w) (G:=G) _ g 0 cap 5 (λi=>(WX l).getD i xy) ZgI d ZgH (Z7k l) (λi n=>by
   have f:i< I (WX l):=by rw[a];simpa using n
   rw[Zit,h.cellAt i Z0];simp[f]) (λi c k=>Mz l i c k)
 simp_all
def ZbH{ws shs old K n xs W}(a:shs=[])(h:(n=0/\yg ws shs old K xs W)\/((n=2\/n=3)/\xs=[]/\ZP ws shs old=([],n))):ZP ws shs old=(xs,n):=by
 obtain⟨rfl,t,_,h⟩|⟨_,rfl,h⟩:=h;simp_all;exact h
def A3:RP:=by
 intro W O P;refine⟨Z2,λw G vs L p q=> ?_⟩;have r0:=q 0 _ rfl;obtain⟨⟨l⟩⟩:=vs;simp at p;rename_i v0 l;cases l with
 |cons _ _=>simp at p
 |nil=>
  simp at r0;obtain⟨g,o,cap,C,k,x,N⟩:=Z0t r0 L O P<|xz (xj w)+1;have z:=Z0l (w:=w) (shs:=[]) (old:=xw) (bt:=U) (K:=λt _=>t=0) C k ⟨x,Z0,Z0⟩ (.inl rfl) Z1 Z1 Z2K rfl (λt A B row h _ _=>h) (λQ base t A B _ _ h _=>h);obtain⟨S,T,sc,rfl⟩:∃a n c,v0=.slice a n c:=by
   obtain rfl|⟨_,a,c,rfl⟩:=k;simp;simp
  have D:=ZhK z;clear z C k r0 q;go_enter Z24,Tryz.ntmps82;go_wp2_with (go_at_call 95;refine D.out.mono ?_;rintro e w1 ⟨v,n,X,rfl,f,d,u⟩;have F:=ZhK<|And.intro f<|And.intro d u;clear f d u)
  obtain⟨f,d,u⟩:=F.out;have M:=ZbH rfl u;refine Zie (v:=.tuple #[v,.int .i64 n]) (by simp[results,Tryz.results82,go_sem]) rfl ⟨_,rfl,(ZhY _ w).grown f (ZhL _) (λj e=>by cases e),?_⟩;rw[M];refine .al _ _ rfl ?_;intro i y r
  match i,r with
  |0,r=>cases r;exact MA d λc R H=>.inr ⟨Z0,H⟩
  |1,r=>cases r;exact .int _ _
def KpW.cell{j base A B}(h:KpW j base A B){k i c}(hc:A.cell? ⟨k,i,U⟩=J c)(n:k<base)(l:k≠j):B.cell? ⟨k,i,U⟩=J c:=by
 unfold World.cell? at hc;cases d:A.heap[k]? with
 |none=>simp_all
 |some g=>
  have f:g.isCells=xk:=by
   rw[d]at hc;cases g<;>simp_all [Obj.isCells]
  rw[<-hc];exact Ziz (a:=⟨k,i,U⟩)<|(h.same k g d f l Z0).trans d.symm
def KOld.grown{shs bt a t n v A B row}(h:KOld shs bt a v t A)(d:A.grownBy B row)(p:bt<n)(l:a<n)(u:shs≠[]->∀g o cap,v=.slice (J ⟨g,o,U⟩) (I shs) cap->g<n)(q:∀r,row=J r->n<=r):KOld shs bt a v t B:=by
 let⟨f,j,k⟩:=h;exact⟨(d.block _ ZgH ZgH).trans f,j.grown d ZgH ZgH,k⟩
def KOld.kp{shs bt d t n j base v A B}(h:KOld shs bt d v t A)(a:KpW j base A B)(u:bt<n)(r:d<n)(w:shs≠[]->∀g o cap,v=.slice (J ⟨g,o,U⟩) (I shs) cap->g<n)(D:n<=j)(h2:n<=base):KOld shs bt d v t B:=by
 let⟨k1,⟨y,z⟩,C⟩:=h;refine⟨a.same _ _ k1 rfl Z0 Z0,⟨a.same _ _ y rfl Z0 Z0,?_⟩,C⟩;obtain⟨g,o,cap,rfl,l,p,q,f⟩|h:=z;refine .inl ⟨g,o,cap,rfl,l,p,ZhO q a.size,λi x k=> ?_⟩;have:=w (λe=>ZgI) _ _ _ rfl;exact⟨a.cell (f i x k).1 Z0 Z0,a.cell (f i x k).2 Z0 Z0⟩;simp_all
def Words.rx{w W ws g o cap}(h:Words w ws g o cap)(d:ws≠[]->g<xz (xj w))(a:Below (xz<|xj w) w W):Words W ws g o cap:=
 ⟨λi x f=>by rw[a.cell (p:=⟨g,o+i,U⟩)<|d (λe=>ZgI)];exact h.ab i x f,h.le,h.cap,h.len,h.u64⟩
def A2:RQ:=by
 intro C d hl a7 hu b2;refine⟨Z2,λw G vs hG N P=> ?_⟩;have r0:=P 0 _ rfl;have r1:=P 1 _ rfl;obtain⟨⟨l⟩⟩:=vs;simp at N;rename_i v0 l;cases l with
 |nil=>simp at N
 |cons v1 l=>
 cases l with
 |cons _ _=>simp at N
 |nil=>
  simp at r0 r1;obtain⟨g,o,cap,hw,M,R,a0⟩:=Z0t r0 hG hl hu<|xz (xj w)+3;have O:=Zar r1 hG;obtain⟨sa,sn,sc,rfl⟩:∃a n c,v0=.slice a n c:=by
   obtain rfl|⟨_,a,c,rfl⟩:=M;simp;simp
  obtain⟨k,q,rfl⟩:∃a c,v1=.slice a (I d) c:=by
   grind
  have b0:((w.alloc<|.cells #[.slice k (I d) q] 170).alloc<|.cells #[.int .i64 0] 3).heap[xz<|xj w]?=J (.cells #[.slice k (I d) q] 170 (0,0)):=(ZhU _ _ _ Z1).trans<|Zi7 w _;have b1:((w.alloc<|.cells #[.slice k (I d) q] 170).alloc<|.cells #[.int .i64 0] 3).heap[xz (xj w)+1]?=J (.cells #[.int .i64 0] 3 (0,0)):=by
   have:=Zi7 (w.alloc<|.cells #[.slice k (I d) q] 170)<|.cells #[.int .i64 0] 3;simp_all
  have z:Below (xz<|xj w) w<|(w.alloc<|.cells #[.slice k (I d) q] 170).alloc<|.cells #[.int .i64 0] 3:=((ZhY _ w).alloc (ZhL _) _).alloc Z1 _;have L:xz (xj<|(w.alloc<|.cells #[.slice k (I d) q] 170).alloc<|.cells #[.int .i64 0] 3)=xz (xj w)+2:=Z1;have a5:d≠[]->∀g o cap,Value.slice k (I d) q=.slice (J ⟨g,o,U⟩) (I d) cap->g<xz (xj w):=by
   intro X g o cap e;obtain⟨g1,Y,c1,e1,_,_,h4,_⟩|⟨_,_,_,h⟩:=O;simp_all;simp_all
  have W:Calls xP 95 #[.slice sa sn sc,.func (.func 96) #[] #[.pointer<|J ⟨xz (xj w)+1,0,U⟩,.pointer<|J ⟨xz<|xj w,0,U⟩]] ((w.alloc<|.cells #[.slice k (I d) q] 170).alloc<|.cells #[.int .i64 0] 3)
    (Fq ((w.alloc<|.cells #[.slice k (I d) q] 170).alloc<|.cells #[.int .i64 0] 3) C d xk (J<|xz (xj w)+1)<|KOld d (xz (xj w)+1) (xz<|xj w)<|.slice k (I d) q):=by
   generalize a8:(w.alloc<|.cells #[.slice k (I d) q] 170).alloc (.cells #[.int .i64 0] 3)=W1 at*;have K:d≠[]->∀g o cap,Value.slice k (I d) q=.slice (J ⟨g,o,U⟩) (I d) cap->g<xz (xj W1):=λX g o cap e=>ZgH;refine Z0l (hw.rx R z) M ⟨λh=>ZgH,Z0,Z0⟩ (.inr ⟨_,_,rfl⟩) (λr e=>ZgH) (λe=>ZgH) (Z2L a7 Z0<|λX g o cap e=>ZgH) ⟨b1,⟨b0,?_⟩,Z0⟩ (λt A B row h hg hr=>h.grown hg (n:=xz<|xj W1) Z0 Z0 K hr) (λbl base t A B h1 h2 h W=>h.kp W (n:=xz<|xj W1) Z0 Z0 K h1 h2);obtain⟨g1,Y,c1,e1,a1,a2,a3,a4⟩|⟨a,c,e1,h⟩:=O;exact .inl ⟨g1,Y,c1,e1,a1,a2,Z0,λi x hx=>⟨(z.cell (p:=⟨g1,Y+i*2,U⟩) a3).trans (a4 i x hx).1,(z.cell (p:=⟨g1,Y+i*2+1,U⟩) a3).trans (a4 i x hx).2⟩⟩;simp_all
  have F:∀w1 v n (Q:List Ob),(v=.slice U 0 0/\Q=[]\/w1.ownsRow (xz (xj w)+6) 122 5 v (I Q) (WX Q))->ZP C d xk=(Q,n)->Rd w1 (λb=>xk=xw/\G b\/xz (xj w)<=b/\b<xz (xj w1)) (.al [.sl<|(ZP C d xk).1.map ZO,vi (ZP C d xk).2]) (.tuple #[v,.int .i64 n]):=by
   intro w1 v n Q f hW;rw[hW];refine .al _ _ rfl ?_;intro i y T
   match i,T with
   |0,T=>
    cases T;obtain⟨rfl,rfl⟩|f:=f;exact .nil _ _ (by grind [maxLen]);exact MA f λc h1 h2=>.inr ⟨Z0,h2⟩
   |1,T=>cases T;exact .int _ _
  have S:Calls xP 95 #[.slice sa sn sc,.func (.func 96) #[] #[.pointer<|J ⟨xz (xj w)+1,0,U⟩,.pointer<|J ⟨xz<|xj w,0,U⟩]] ((w.alloc<|.cells #[.slice k (I d) q] 170).alloc<|.cells #[.int .i64 0] 3) λe w1=>
    (∃(v:Value) (t:Nat),e=.returned (.tuple #[v,.int .i64 0])/\w1.cell? ⟨xz (xj w)+1,0,U⟩=J (.int .i64 t)/\w1.cell? ⟨xz<|xj w,0,U⟩=J (.slice k (I d) q)/\(t:Int)<I d/\Hid (Below (xz<|xj w) w w1/\Rd w1 (λb=>xk=xw/\G b\/xz (xj w)<=b/\b<xz (xj w1)) (.al [.sl<|(ZP C d xk).1.map ZO,vi (ZP C d xk).2]) (.tuple #[.slice U 0 0,.int .i64 3])))\/
    (∃(v:Value) (t:Nat),e=.returned (.tuple #[v,.int .i64 0])/\w1.cell? ⟨xz (xj w)+1,0,U⟩=J (.int .i64 t)/\w1.cell? ⟨xz<|xj w,0,U⟩=J (.slice k (I d) q)/\¬(t:Int)<I d/\Hid (Below (xz<|xj w) w w1/\Rd w1 (λb=>xk=xw/\G b\/xz (xj w)<=b/\b<xz (xj w1)) (.al [.sl<|(ZP C d xk).1.map ZO,vi (ZP C d xk).2]) (.tuple #[v,.int .i64 0])))\/
    (∃(v:Value) (n:Int),e=.returned (.tuple #[v,.int .i64 n])/\¬n=0/\Hid (Below (xz<|xj w) w w1/\Rd w1 (λb=>xk=xw/\G b\/xz (xj w)<=b/\b<xz (xj w1)) (.al [.sl<|(ZP C d xk).1.map ZO,vi (ZP C d xk).2]) (.tuple #[.slice U 0 0,.int .i64 n]))):=by
   refine W.mono ?_;rintro e w1 ⟨v,n,Q,rfl,a6,f,hE⟩;rw[L]at f;have hB:Below (xz<|xj w) w w1:=z.trans<|(ZhY _ _).grown a6 Z0 (λj e=>ZgH);obtain⟨rfl,t,⟨hb,hs,ht⟩,u⟩|⟨X,rfl,u⟩:=hE;have Z:w1.cell? ⟨xz (xj w)+1,0,U⟩=J (.int .i64 t):=by rw[ZhQ _ _ _ _ _ _ hb];rfl
   have q2:w1.cell? ⟨xz<|xj w,0,U⟩=J (.slice k (I d) q):=by rw[ZhQ _ _ _ _ _ _ hs.box];rfl
   by_cases D:t<I d;rw[ZhS D]at u;exact .inl ⟨v,t,rfl,Z,q2,Z0,ZhK ⟨hB,F w1 _ _ [] (.inl ⟨rfl,rfl⟩) u⟩⟩;rw[ZhP D]at u;exact .inr<|.inl ⟨v,t,rfl,Z,q2,Z0,ZhK ⟨hB,F w1 _ _ Q (.inr f) u⟩⟩;exact .inr<|.inr ⟨v,n,rfl,Z0,ZhK ⟨hB,F w1 _ _ [] (.inl ⟨rfl,rfl⟩) u⟩⟩
  have HK:=ZhK S;clear hw M r0 r1 P O R a0 W S z b0 b1 a5 L F;go_enter Z26,Tryz.ntmps84;have a9:∀(fn:Go.Fn) (first cap:Array Value) (w:World),(Instr.makeFunc fn first cap).run xP w=.ok (.func fn first cap) w:=λ_ _ _ _=>rfl;go_wp2_with (go_at_call 95;refine HK.out.mono ?_;rintro e w1 (⟨v,t,rfl,Z,q2,D,H⟩|⟨v,t,rfl,Z,q2,D,H⟩|⟨v,n,rfl,X,H⟩))
  .refine Zie (v:=.tuple #[.slice U 0 0,.int .i64 3]) (by simp[results,Tryz.results84,go_sem]) rfl ⟨_,rfl,H.out.1,H.out.2⟩
  .refine Zie (v:=.tuple #[v,.int .i64 0]) (by simp[results,Tryz.results84,go_sem]) rfl ⟨_,rfl,H.out.1,H.out.2⟩
  .refine Zie (v:=.tuple #[.slice U 0 0,.int .i64 n]) (by simp[results,Tryz.results84,go_sem]) rfl ⟨_,rfl,H.out.1,H.out.2⟩
end Vm
namespace Vm
open Go Go.Proofs Go.RowKit
def Z7l{w G l v}(r:Rd w G (.sl<|l.map ZO) v)(t:∀b,G b->b<xz (xj w)):
  (∃g o cap,v=.slice (J ⟨g,o,U⟩) (I l) cap/\I l<=cap/\cap<=maxLen/\g<xz (xj w)/\∀i x,l[i]?=J x->w.cell? ⟨g,o+i*5,U⟩=J (.int .i64 x.ab)/\w.cell? ⟨g,o+i*5+1,U⟩=J (.int .i64 x.size)/\
   w.cell? ⟨g,o+i*5+2,U⟩=J (.int .i64 x.Y)/\w.cell? ⟨g,o+i*5+3,U⟩=J (.bool x.gone)/\w.cell? ⟨g,o+i*5+4,U⟩=J (.int .u64 x.target))\/
  (∃a cap,v=.slice a 0 cap/\l=[]):=by
 generalize u:l.map ZO=L at r;cases r with
 |nil a cap F=>
  simp_all
 |sl _ b o cap k vs j n p d q h=>
  subst u;simp only[Zia]at j q⊢;refine .inl ⟨b,o,cap,rfl,j,n,t b p,λi x y=> ?_⟩;have f:(l.map ZO)[i]?=J (ZO x):=by rw[Zi8,y];rfl
  have K:k=5:=((d _<|ZhR f).1).symm;have H:i<I l:=ZgH;have z:=h (i*5) (vi x.ab) (by have:=VR d f 0 Z0;simp_all);have A:=h (i*5+1) (vi x.size) (by have:=VR d f 1 Z0;simp_all);have B:=h (i*5+2) (vi x.Y) (by have:=VR d f 2 Z0;simp_all);have C:=h (i*5+3) (.bool x.gone) (by have:=VR d f 3 Z0;simp_all);have D:=h (i*5+4) (vu x.target) (by have:=VR d f 4 Z0;simp_all);grind [SA,Nat.add_assoc,OD]
end Vm
end
section

end
section
namespace Vm
open Go Go.Proofs
def zy{h:Hp}(a:h.ok):VC xP 8 xw [ZE h]<|.bool<|Yk h:=by
 rw[<-(BJ h).1];exact Z0Q A3 A2 a
def Z0N{h:Hp}(a:h.ok){k:Int}:VC xP 74 xw [ZE h,vi k]<|.al [.sl<|(UQ h k).1.map ZO,vi (UQ h k).2]:=by
 rw[<-Z6a h k];exact Z0O A3 A2 a
def Z0R{h:Hp}(a:h.ok):VC xP 37 xw [ZE h]<|vi<|Uc h:=by
 rw[<-Z6e h];exact Z0S A3 A2 a
def No:Fn:=⟨5,[0,1,2,3,6],pQ [pR [(1,pS 0 2),(2,.m [pN,pN]),pV 3<|pI 0],pQ [pC [pK 5 48 [.mm 1 0 2]] [pV 4<|.un .not<|.s 5]]<|pw (.s 4)<|pQ [.ao ⟨[],[([],.ag [pN,pN])],[(2,.m [pN,pN]),pV 3<|pI 1]⟩] .ret,pC [.cl 6 [] (.id 75) [.fz,(.own 162)] [.mm 1 0 2,.c<|.mp 0 [] []]] [(2,pM (.sz (.ext (.s 6) 0) 2) 2),pV 3<|pI 0]] .ret,[(2,(.ag 2)),(3,.v)]⟩
def c47:ZN xP fresh sig [.fz] [] Tryz.f47=J No:=Z2
def Np:Fn:=⟨11,[0,1,2,9,3,14,13,15,5,12,32],pQ [pR [(1,pS 0 2),pV 2 pF],pi 3 (pj (.len<|.m 1 1)<|pI 16)<|px [pV 2 pF],pR [(4,.no)],pQ [pR [(4,.no),pV 5<|pI 0,pV 6<|.len<|.m 1 0,pV 9<|.m 1 0]]<|.block 0<|.loop [0,1,2,3,4,5,6,9]<|pQ [pR [(4,.no),pV 7<|pl (.s 5)<|.s 6],.cond (.s 7) .skip<|.exit 0,.block 1<|pQ [pR [(4,.no),(8,pM (.bb (.az (.s 9) (.s 5) 2) 0 2) 2)],.ao ⟨[.lt 11 []<|pj (pa (.len<|.m 8 0)<|.len<|.m 8 1)<|pI 255,.cl 12 [(11,xw)] (.id 76) [.fz,(.mem [.fz,.fz])] [.m 8 0,.ag [.m 1 0,.m 1 1]]],[([(11,xw)],.un .not<|.ext (.s 12) 0)],[(1,pM (.ext (.s 12) 1) 2),(4,.no),pV 10<|.ite (.s 11) pT<|.un .not<|.ext (.s 12) 0]⟩]<|pw (.s 10)<|px [pV 2 pF,(4,.no)]]<|pR [(4,.no),pV 5<|pa (.s 5)<|pI 1],pC [.cl 13 [] (.id 76) [.fz,(.mem [.fz,.fz])] [.m 1 1,.ag [.m 1 0,.m 1 1]]] [(1,pM (.ext (.s 13) 1) 2),pV 2<|.ext (.s 13) 0,(4,.no)]] .ret,[(2,.v)]⟩
def c48:ZN xP fresh sig [.fz] [] Tryz.f48=J Np:=Z2
def NF:Fn:=⟨11,[0,1,2,4,5,13,12,14,7,11,8],pQ [pR [(2,pS 0 2),(3,.m [pN,pN])],pR [(4,.m [pN,pN])],pQ [pC [.cl 9 [] (.id 93) [.fz,(.own 162)] [.mm 2 0 2,.s 1]] [pV 1<|.ext (.s 9) 1,pV 5<|pI 0,pV 6<|.len<|.ext (.s 9) 0,pV 9<|.ext (.s 9) 0]]<|po [0,1,2,3,4,5,6,9] 7 (pl (.s 5)<|.s 6) (pQ [pR [pV 8<|.ae (.az (.s 9) (.s 5) 1) 0],pR [(10,pM (.bb (.az (.m 2 0) (.s 8) 2) 0 2) 2)]]<|pC [.call 11 [] (.id 94) xk xw [.m 10 0,.s 1]] [(4,.m [.app (.m 4 0) (.lit [.ag [.one<|.s 11,.app pN (.m 10 1) 1]]) 2,.m 4 1])])<|pc 5,pC [.call 12 [] (.id 94) xk xw [.m 2 1,.s 1]] [(4,.m [.m 4 0,.one<|.s 12])]]<|px [(3,pM (.mm 4 0 2) 2)],[(3,(.ag 2))]⟩
def c75:ZN xP fresh sig [.fz,(.own 162)] [(1,(.own 162))] Tryz.f75=J NF:=Z2
def NG:Fn:=⟨9,[0,1,3,8,7,9,5,6,20],pQ [pR [pV 2 pF],pQ [pR [pV 3<|pI 0,pV 4<|.len<|.s 0,pV 7<|.s 0]]<|po [0,1,2,3,4,7] 5 (pl (.s 3)<|.s 4) (pQ [pR [pV 6<|.ae (.az (.s 7) (.s 3) 1) 0],.ao ⟨[.lt 9 []<|pl (.s 6)<|pI<|-1],[([(9,xw)],pg (.s 6)<|.len<|.m 1 0)],[pV 8<|.ite (.s 9) pT<|pg (.s 6)<|.len<|.m 1 0]⟩]<|pw (.s 8)<|px [pV 2 pF])<|pc 3]<|px [pV 2 pT],[(2,.v)]⟩
def c76:ZN xP fresh sig [.fz,(.mem [.fz,.fz])] [(1,(.mem [.fz,.fz]))] Tryz.f76=J NG:=Z2
def Lw:Fn:=⟨9,[0,1,2,3,4,5,6,7,17],pQ [pR [(1,.no),(2,pS 0 2),(3,.m [.s 1]),pV 4 pN],pR [(3,.m [.dz<|.m 3 0])],pR [(5,.m [pN])],pR [(6,.no)],pC [.cl 9 [] (.id 97) [.fz,(.mem [(.own 162)]),(.mem [(.own 3)])] [.m 2 1,.ag [.m 3 0],.ag [.m 5 0]]] [(3,.m [.ae (.ext (.s 9) 1) 0]),(5,.m [.ae (.ext (.s 9) 2) 0]),(6,.no)],pQ [pR [(6,.no),pV 7<|pI 0]]<|.block 0<|.loop [0,2,3,4,5,6,7]<|pQ [pQ [pR [(6,.no),pV 8<|pl (.s 7)<|.len<|.m 5 0]]<|.cond (.s 8) .skip<|.exit 0,.block 1<|pC [.cl 10 [] (.id 97) [.fz,(.mem [(.own 162)]),(.mem [(.own 3)])] [.ae (.az (.m 2 0) (.ae (.az (.m 5 0) (.s 7) 1) 0) 2) 0,.ag [.m 3 0],.ag [.m 5 0]]] [(3,.m [.ae (.ext (.s 10) 1) 0]),(5,.m [.ae (.ext (.s 10) 2) 0]),(6,.no)]]<|pR [(6,.no),pV 7<|pa (.s 7)<|pI 1]]<|px [pV 4<|.m 5 0,(6,.no)],[(4,.v)]⟩
def c93:ZN xP fresh sig [.fz,(.own 162)] [(3,(.mem [(.own 162)]))] Tryz.f93=J Lw:=Z2
def NO:Fn:=⟨10,[0,1,4,5,10,9,11,7,8,15],pQ [pR [pV 2 pN],pR [pV 3 pN],pQ [pR [pV 4<|pI 0,pV 5<|.len<|.s 0,pV 8<|.s 0]]<|po [0,1,2,3,4,5,8] 6 (pl (.s 4)<|.s 5) (pQ [pR [pV 7<|.ae (.az (.s 8) (.s 4) 1) 0],pi 9 (pg (.s 7)<|pI 0)<|pR [pV 7<|.lk (.i .i64) (.s 1) (.s 7) (.int .i64 0) xw]]<|pR [pV 3<|.app (.s 3) (.lit [.one<|.s 7]) 1])<|pc 4]<|px [pV 2<|.s 3,(3,.no)],[(2,.v)]⟩
def c94:ZN xP fresh sig [.fz,.fz] [(4,(.own 3))] Tryz.f94=J NO:=Z2
def NP:Fn:=⟨11,[0,1,2,10,9,11,5,8,6,7,25],pQ [pR [pV 3<|pI 0,pV 4<|.len<|.s 0,pV 7<|.s 0]]<|po [0,1,2,3,4,7] 5 (pl (.s 3)<|.s 4) (pQ [pR [pV 6<|.ae (.az (.s 7) (.s 3) 1) 0],pR [pV 8<|.fl<|.ext (.lk (.i .i64) (.m 1 0) (.s 6) (.int .i64 0) xk) 0,pV 9<|.fl<|.ext (.lk (.i .i64) (.m 1 0) (.s 6) (.int .i64 0) xk) 1],.ao ⟨[.lt 11 []<|pg (.s 6)<|pI 0],[([(11,xk)],.un .not<|.s 9)],[pV 10<|.ite (.s 11) (.un .not<|.s 9) pF]⟩]<|pw (.s 10)<|pQ [pR [(1,.m [.dc (.i .i64) (.m 1 0) (.s 6)<|.len<|.m 2 0])]]<|pR [(2,.m [.app (.m 2 0) (.lit [.one<|.s 6]) 1])])<|pc 3,[]⟩
def c97:ZN xP fresh sig [.fz,(.mem [(.own 162)]),(.mem [(.own 3)])] [(1,(.mem [(.own 162)])),(2,(.mem [(.own 3)]))] Tryz.f97=J NP:=Z2
end Vm
end
section
namespace Vm
open Go Go.Proofs
def Gr.sm(g:Gr):Prop:=I g.nodes<=100000/\I g.E<=100000/\∀n∈g.nodes,I n.Y<=100000/\I n.data<=100000
def Tg(n:Nat)(p:Int):Bool:=decide (-1<=p/\p<n)
def Rj(k:Nat)(n:Nd):Bool:=decide (I n.Y+I n.data<=255)&&n.Y.all (Tg k)
def right(g:Gr):Bool:=decide (I g.E<=16)&&g.nodes.all (Rj<|I g.nodes)&&g.E.all (Tg<|I g.nodes)
theorem Fy{α:Type}{p}{l:List α}{i x}(h:l[i]?=J x):(l.take<|i+1).all p=((l.take i).all p&&p x):=by
 rw[ZiG,h];simp
theorem Fv{α:Type}{p}{l:List α}{i:Nat}{x}(h:l[i]?=J x)(a:p x=xw):l.all p=xw:=by
 grind
def GT{l:List Int}{ns:List V}{a:V}(g:I l<=100000)(k:a.one=xk)(j:YP a=J a):
  Vv xP 76 [.fz,.mem [.fz,.fz]] [.sl<|l.map vi,.agg [.sl ns,a]] (.al [.bool<|l.all<|Tg<|I ns,.agg [.sl ns,a]]):=by
 refine JV Z21 follows Z2 c76 Z2 ?_;simp[-List.all_eq_true,-List.all_eq_false,NG];refine S7 (λt=>∃i:Nat,i<=I l/\(l.take i).all (Tg<|I ns)=xk/\t=[.v<|.sl<|l.map vi,.m [.sl ns,a],.v<|.bool xw,.v<|vi i,.v<|vi<|I l,.no,.no,.v<|.sl<|l.map vi]) (λt=>match get t 3 with|.v (.int _ n)=>I l-n.toNat|_=>0) ?_ ?_;exact⟨0,Z1,Z1,Z1⟩;rintro t ⟨i,f,d,rfl⟩;by_cases h:i<I l;have o:l[i]?=J l[i]:=ZhG h;simp[-List.all_eq_true,-List.all_eq_false,h];simp(disch:=omega) only[Zx];grind [Fv,Tg,Fy];have:i=I l:=Z0;simp_all
def P0{g:Gr}(r:g.sm):VC xP 48 xw [Yx g]<|.bool<|right g:=by
 obtain⟨u,j,k⟩:=r;refine ZT Z1G follows Z2 c48 rfl ?_;simp[-List.all_eq_true,-List.all_eq_false,Np];split;grind [List.all_eq_true,List.all_eq_false,right];rename_i h;refine S7 (λt=>∃i:Nat,i<=I g.nodes/\(g.nodes.take i).all (Rj<|I g.nodes)=xk/\t=[.v<|Yx g,.m [.sl<|g.nodes.map Yj,.sl<|g.E.map vi],.v<|.bool xw,.v<|.bool xw,.no,.v<|vi i,.v<|vi<|I g.nodes,.no,.no,.v<|.sl<|g.nodes.map Yj]) (λt=>match get t 5 with|.v (.int _ n)=>I g.nodes-n.toNat|_=>0) ?_ ?_;exact⟨0,Z1,Z1,by simp[h]⟩;rintro t ⟨i,z,a,rfl⟩;by_cases d:i<I g.nodes;have A:g.nodes[i]?=J g.nodes[i]:=ZhG d;obtain⟨q,y⟩:=k _<|Zi5 d;have p:=Zx ((i:Int)+1) Z0 Z0;simp[-List.all_eq_true,-List.all_eq_false,d,p];simp(disch:=omega) only[Zx];have w:Rj (I g.nodes) g.nodes[i]=xw->right g=xw:=λx=>by grind [List.all_eq_true,List.all_eq_false,right,Fv]
 by_cases l:(g.nodes[i].Y.length:Int)+(g.nodes[i].data.length:Int)<=255;rw[ZhS l];refine Ug (GT q Zhw Zhw) ?_;have f:¬(255:Int)< (g.nodes[i].Y.length:Int)+(g.nodes[i].data.length:Int):=Z0;cases o:g.nodes[i].Y.all<|Tg<|I g.nodes;simp[-List.all_eq_true,-List.all_eq_false,f,o];simp_all[ZhV,Zkm,Rj];simp[-List.all_eq_true,-List.all_eq_false,f,o,p];grind [Fy,List.all_eq_true,List.all_eq_false,Rj];rw[ZhP l];grind [List.all_eq_true,List.all_eq_false,Rj];have:i=I g.nodes:=Z0;subst this;simp[-List.all_eq_true,-List.all_eq_false];refine Ug (GT j Zhw Zhw) ?_;rw[Zjm]at a;simp[-List.all_eq_true,-List.all_eq_false,right,a];omega
end Vm
namespace Vm
open Go Go.Proofs
end Vm
namespace Vm
open Go Go.Proofs
def DY(n:Nat):List V:=(List.range n).map λ(i:Nat)=>vi i
def XK(id:Nat)(l:List Int):V:=.mp id (l.map vi)<|DY<|I l
def Vp:List Int->List Int->List Int
 |a,[]=>a
 |a,x::l=>Vp (if 0<=x/\x∉a then a++[x]else a) l
def AK{x}:∀ {l:List Int},TM (vi x) (l.map vi)=J (l.findIdx? (· ==x))
 | []=>rfl
 |y::l=>by
  simp only[Zii,TM,L5,Zle];by_cases h:x=y;subst h;simp;have a:(x==y)=xw:=Zhv;have d:(y==x)=xw:=by simpa using Zju h
  simp[a,d,AK]
def GN{x}{l:List Int}:l.findIdx? (· ==x)=U↔x∉l:=by
 grind
theorem IT{id l x z ok}:UN (.i .i64) (XK id l) (vi x) z ok=match l.findIdx? (· ==x)with
  |some i=>J (if ok then .al [vi i,.bool xk]else vi i)
  |none=>J (if ok then .al [z,.bool xw]else z):=by
 unfold UN XK;simp[Vl,AK];grind [List.findIdx?_eq_some_iff_getElem,DY]
def Z6R{id l x}(hx:x∉l):Tk (.i .i64) (XK id l) (vi x) (vi<|I l)=J (XK id<|l++[x]):=by
 unfold Tk XK;simp[Vl,AK,GN.2 hx];simp[DY,Zk2]
@[simp]theorem Zfi id l:YP (XK id l)=J (XK id l):=rfl
def Mt{ns acc:List Int}{id:Nat}(q:I ns<=100000)(k:I acc<=1000000):Vv xP 97 [.fz,.mem [.own 162],.mem [.own 3]] [.sl<|ns.map vi,.agg [XK id acc],.agg [.sl<|acc.map vi]]
  (.al [.al [],.agg [XK id<|Vp acc ns],.agg [.sl<|(Vp acc ns).map vi]]):=by
 refine JV Z2h follows Z2 c97 Z2 ?_;simp[NP];refine S7 (λt=>∃i l,i<=I ns/\Vp l (ns.drop i)=Vp acc ns/\I l<=1000000+i/\t=[.v<|.sl<|ns.map vi,.m [XK id l],.m [.sl<|l.map vi],.v<|vi (i:Nat),.v<|vi<|I ns,.no,.no,.v<|.sl<|ns.map vi]) (λt=>match get t 3 with|.v (.int _ n)=>I ns-n.toNat|_=>0) ?_ ?_;exact⟨0,acc,Z1,Z1,Z0,Z1⟩;rintro t ⟨i,l,r,f,u,rfl⟩;by_cases h:i<I ns;have p:ns.drop i=ns[i]::ns.drop (i+1):=(ZiD h);rw[p,Vp]at f;simp[h,IT];by_cases d:ns[i]∈l;have a:∃j,l.findIdx? (· ==ns[i])=J j:=by
  cases o:l.findIdx? (· ==ns[i])with
  |none=>grind
  |some j=>simp
 obtain⟨j,o⟩:=a;simp[o,WD,V.bf];simp(disch:=omega) only[Zx];grind;simp[GN.2 d,WD,V.bf];simp(disch:=omega) only[Zx];by_cases g:0<=ns[i];rw[ZhS g,Z6R d];rw[ZhS ⟨g,d⟩]at f;simp;refine⟨by grind [Y4],⟨i+1,Z0,l++[ns[i]],f,ZgJ,rfl,Z1,Z1⟩,Z0⟩;grind;have:i=I ns:=Z0;simp_all[Vp]
@[simp]theorem Zdm id l:(XK id l).cells=[XK id l]:=rfl
def Good(n:Nat)(l:List Int):Prop:=l.Nodup/\∀x∈l,0<=x/\x<n
def C7:∀(n:Nat) {l:List Int},l.Nodup->(∀x∈l,0<=x/\x<n)->I l<=n
 |0,l,_,h=>by
  obtain _|⟨x,l⟩:=l;simp;have:=h x Z1;omega
 |n+1,l,a,h=>by
  by_cases j:(n:Int)∈l;have g:=C7 n (a.erase (n:Int)) λx d=>by
   have f:=(a.mem_erase_iff).1 d;have:=h x f.2;omega
  rw[List.length_erase_of_mem j]at g;omega;have:=C7 n a λx d=>by
   have g:=h x d;have:x≠n:=ZgH;omega
  omega
def Good.len{n l}(h:Good n l):=C7 n h.1 h.2
def Lf{n}:∀ {f a:List Int},Good n a->(∀x∈f,x<n)->Good n (Vp a f)
 | [],a,h,_=>h
 |x::f,a,h,j=>by
  simp[Vp];refine Lf ?_ λy d=>ZgI;split;rename_i g;refine⟨?_,λy d=> ?_⟩;rw[ZkM];exact⟨h.1,Z1,ZgH⟩;obtain d|d:=Zib.1 d;exact h.2 y d;simp at d;subst d;exact⟨g.1,ZgI⟩;exact h
def Qs(g:Gr):Nat->Nat->List Int->List Int
 |0,_,l=>l
 |f+1,i,l=>match l[i]? with
  |some x=>Qs g f (i+1)<|Vp l ((g.nodes[x.toNat]?).getD default).Y
  |none=>l
def order(g:Gr):List Int:=Qs g (I g.nodes+1) 0<|Vp [] g.E
def It{n p}(h:Tg n p=xk): -1<=p/\p<n:=by grind [Tg]
def OZ{g}(a:right g=xk):∀x∈g.E,-1<=x/\x<I g.nodes:=by
 simp[right,ZhV]at a;exactλx d=>It ZgI
def OY{g}(a:right g=xk):∀n∈g.nodes,∀x∈n.Y,-1<=x/\x<I g.nodes:=by
 simp[right,Rj]at a;exactλn d x f=>It ZgH
def Z7M{g:Gr}(C:g.sm)(B:right g=xk)(id:Nat)(ks vs:List V):
  Yu xP Lw.body [.v<|Yx g,.v<|.mp id ks vs] (λs=>get s 4=.v (.sl<|(order g).map vi)/\get s 3=.m [XK id<|order g]) (λ_ _=>False) (λs=>get s 4=.v (.sl<|(order g).map vi)/\get s 3=.m [XK id<|order g]):=by
 obtain⟨D,q,r⟩:=C;simp[Lw];refine Ug (Mt (ns:=g.E) (acc:=[]) (id:=id) q Z1) ?_;simp;have d:=OZ B;have j:Good (I g.nodes)<|Vp [] g.E:=Lf ⟨Z1,Z1⟩ λx p=>(d x p).2;refine S7 (λt=>∃i l,i<=I l/\Good (I g.nodes) l/\Qs g (I g.nodes+1-i) i l=order g/\t=[.v<|Yx g,.no,.m [.sl<|g.nodes.map Yj,.sl<|g.E.map vi],.m [XK id l],.v<|.sl [],.m [.sl<|l.map vi],.no,.v<|vi (i:Nat)]) (λt=>match get t 7 with|.v (.int _ n)=>I g.nodes-n.toNat|_=>0) ?_ ?_;exact⟨0,_,Z1,j,rfl,Z1⟩;rintro t ⟨i,l,K,u,A,rfl⟩;have z:=u.len;by_cases h:i<I l;obtain⟨G,M⟩:=u.2 _<|Zi5 h;obtain⟨k,w⟩:=ZhW G;have o:k<I g.nodes:=Z0;have p:l[i]?=J (k:Int):=by rw[ZhG h,w]
 simp[h,w,o];refine Ug (Mt (r _<|Zi5 o).1 Z0) ?_;simp;simp(disch:=omega) only[Zx];have a:Good (I g.nodes)<|Vp l g.nodes[k].Y:=Lf u λx p=>(OY B _ (Zi5 o) x p).2;refine⟨⟨i+1,_,?_,a,?_,rfl,rfl,Z1⟩,Z0⟩;have:∀ {ns acc:List Int},I acc<=I (Vp acc ns):=by
  intro ns;induction ns with
  |nil=>simp_all[Vp]
  |cons y ns L=>
   intro acc;simp only[Vp];grind
 grind;rw[show I g.nodes+1-i=(I g.nodes+1- (i+1))+1 by omega,Qs,p]at A;simp_all;have:i=I l:=Z0;subst this;have F:l=order g:=by
  rw[<-A];cases H:I g.nodes+1-(I l) with
  |zero=>omega
  |succ f=>simp[Qs]
 simp_all
def Z7L{g:Gr}(hg:g.sm)(hr:right g=xk)(id:Nat)(ks vs:List V):Vv xP 93 [.fz,.own 162] [Yx g,.mp id ks vs]<|.al [.sl<|(order g).map vi,XK id<|order g]:=by
 refine⟨Z2,λB w h us a9 hA=> ?_⟩;obtain⟨b6,a1,a2⟩:=hA;obtain⟨d7,T,b0⟩:=a2 1 (.own 162) (.mp id ks vs) rfl rfl;simp only[Ws,ZhF]at T;subst T;obtain⟨x1,W,R⟩:=b0;simp only[eval,ZhF]at W;subst W;obtain⟨_,_,hl,_⟩|⟨c7,d5,d9,b,es,Y,he,hv,a5,hB,hid,hh,h1,h2,h3,h4⟩:=R;cases hl;cases he;have a0:zE xP B w h [.fz,.own 162] [Yx g,.mp (b+1) ks vs] us:=by
  refine⟨rfl,a1,λi k x f j=> ?_⟩
  match i,f,j with
  |0,f,j=>grind
  |1,f,j=>
   simp at f j;subst f j;exact⟨_,rfl,_,rfl,.inr ⟨b+1,ks,vs,b,es,Y,rfl,hv,a5,hB,.inr rfl,hh,h1,h2,h3,h4⟩⟩
  |i+2,f,j=>simp at f
 refine yu (cf:=Lw) (fin:=[(3,.mem [.own 162])]) (xs:=[Yx g,.mp (b+1) ks vs]) (Rt:=λs=>get s 4=.v (.sl<|(order g).map vi)/\get s 3=.m [XK (b+1)<|order g]) Z2f follows c93 (Z7M hg hr (b+1) ks vs) a9 a0 λc s S a w' h' hP b8 O z M r p hK o l=> ?_;rw[<-hP]at l z⊢;simp only[Rl,ZhJ,ZhV]at l;obtain⟨A,a7⟩:=l;obtain⟨d,a8⟩:=zG r p a7;have Q:c.ix 3=3:=O 3 ZgV;have hr:Wr s (LT c.P c.ix Tryz.f93)=J (.sl<|(order g).map vi):=by
  rw[<-z];simp[Lw,M.1]
 obtain⟨v,b1,b4⟩:=LU (D:=(h'.drop<|Uq S [(3,.mem [.own 162])]).F) r p (λb hb=>.inl hb) (λq hq=>by
  have h1:=A q hq;have h2:=ZhV.1 (Z2:ON Tryz.f93 [(3,.mem [.own 162])]=xk) q hq;refine⟨h1,λi b hb=>.inr ⟨Ru q,i+1,?_,Z0,hb⟩⟩;simp_all[Uq,Zlo,Ru]) hr
 obtain⟨u,hu,b3,d8,T3,e1,e2,e3,e4,e5⟩:=d.ab 3 (by grind [Yw,Yr]) Zhw;obtain⟨X,hX,C⟩:=e5 0 (.own 162,.m (c.ix 3) 0) rfl;have a3:X=XK (b+1) (order g):=by
  simp only[eval,Q,M.2]at hX;simpa using hX.symm
 subst a3;obtain⟨_,_,hl,_⟩|⟨d0,d6,e0,H,Z,L,N,c0,n,b7,b5,a6,q1,q2,q3,q4⟩:=C;cases hl;simp only[XK,V.mp.injEq]at N;obtain⟨rfl,rfl,rfl⟩:=N;have a4:H=b:=Z0;subst a4;obtain⟨r1,r2,r3⟩:=d.ok.aq 3 1 H n
 refine⟨v,b1,v,.sl<|(order g).map vi,[.bool xw,XK id<|order g],{F:=(h'.drop<|Uq S [(3,.mem [.own 162])]).F,bl:=λt i=>if t=1/\i=1 then J H else U,K:=h'.K},rfl,o.below,o.same,
  ⟨d.ok.base,d.ok.bm,d.ok.co,d.ok.eh,λt i x j=> ?_,λt i t' i' x j c1=> ?_,d.ok.cm,λt i x j=> ?_,d.ok.ei⟩,hK,b4,⟨rfl,λi k y f b9 G=> ?_⟩,rfl⟩
 grind;grind;simp only at j;split at j;simp only[ZhF]at j;subst j;exact d.ok.cg 3 1 H n;cases j
 match i,f,G with
 |0,f,G=>grind
 |1,f,G=>
  simp at f G;subst f G;exact⟨_,rfl,_,rfl,.inr ⟨id,_,_,H,Z,L,rfl,hv,Z1,hB,hid,a6,q1,q2,q3,q4⟩⟩
 |i+2,f,G=>simp at f
end Vm
namespace Vm
open Go Go.Proofs
def zN(l:List Int)(p:Int):Int:=match l.findIdx? (· ==p)with
 |some i=>(i:Nat)
 |none=>0
def U1(l a:List Int):List Int:=a.map λp=>if 0<=p then zN l p else p
def QZ(g:Gr)(l:List Int)(x:Int):Nd:=let n:=(g.nodes[x.toNat]?).getD default;⟨U1 l n.Y,n.data⟩
def VB(g:Gr):Gr:=⟨(order g).map<|QZ g<|order g,U1 (order g) g.E⟩
def Z63{id l x}:UN (.i .i64) (XK id l) (vi x) (vi 0) xw=J (vi<|zN l x):=by
 grind [IT,zN]
def Z42{l:List Int}:∀c∈flat (l.map vi),c.bf=xk:=by
 intro c d;simp[flat,Zi4]at d;obtain⟨y,⟨a,_,rfl⟩,d⟩:=d;have:c=vi a:=by simpa[V.cells]using d
 subst this;rfl
def Mj{a l:List Int}{id:Nat}(o:I a<=100000):VC xP 94 xk [.sl<|a.map vi,XK id l]<|.sl<|(U1 l a).map vi:=by
 refine ZbA (t:=4) (ty:=3) Z2g follows Z2 rfl c94 rfl Z42 ?_;simp[NO];refine S7 (λt=>∃i:Nat,i<=I a/\t=[.v<|.sl<|a.map vi,.v<|XK id l,.v<|.sl [],.v<|.sl<|(U1 l<|a.take i).map vi,.v<|vi i,.v<|vi<|I a,.no,.no,.v<|.sl<|a.map vi]) (λt=>match get t 4 with|.v (.int _ n)=>I a-n.toNat|_=>0) ?_ ?_;exact⟨0,Z1,by simp[U1]⟩;rintro t ⟨i,k,rfl⟩;by_cases h:i<I a;have j:a[i]?=J a[i]:=ZhG h;have d:U1 l (a.take<|i+1)=U1 l (a.take i)++[if 0<=a[i]then zN l a[i]else a[i]]:=by
  unfold U1;rw[ZiG,j,ZiR];rfl
 have g:I (U1 l<|a.take i)<=100000:=by simp[U1];omega
 simp[h];simp(disch:=omega) only[Zx];by_cases f:0<=a[i];simp[f,Z63];refine⟨Zha,⟨i+1,Z0,by rw[d];simp[f],Z1⟩,Z0⟩;simp[f];refine⟨Zha,⟨i+1,Z0,by rw[d];simp[f],Z1⟩,Z0⟩;have:i=I a:=Z0;subst this;simp
def MO{g}(d:right g=xk):∀ {f i} {l:List Int},Good (I g.nodes) l->Good (I g.nodes) (Qs g f i l)
 |0,i,l,h=>h
 |f+1,i,l,h=>by
  simp[Qs];split;rename_i x k;refine MO d (Lf h λy j=> ?_);let⟨n,o⟩:=h.2 x ZgH;have a:x.toNat<I g.nodes:=Z0;rw[ZhG a]at j;exact(OY d _ Z1 y j).2;exact h
def qy{g}(a:right g=xk):Good (I g.nodes)<|order g:=
 MO a (Lf ⟨Z1,Z1⟩ λx d=>(OZ a x d).2)
def Z3a{g:Gr}(p:g.sm)(r:right g=xk)(id:Nat)(ks vs:List V):Vv xP 75 [.fz,.own 162] [Yx g,.mp id ks vs]<|.al [Yx<|VB g,XK id<|order g]:=by
 refine JV Z20 follows Z2 c75 Z2 ?_;simp[NF];refine Ug (Z7L p r id ks vs) ?_;simp;obtain⟨u,j,o⟩:=p;have a:=qy r;have f:=a.len;generalize A:order g=l at a f;refine S7 (λt=>∃i:Nat,i<=I l/\t=[.v<|Yx g,.v<|XK id l,.m [.sl<|g.nodes.map Yj,.sl<|g.E.map vi],.m [.sl [],.sl []],.m [.sl<|((l.take i).map<|QZ g l).map Yj,.sl []],.v<|vi i,.v<|vi<|I l,.no,.no,.v<|.sl<|l.map vi]) (λt=>match get t 5 with|.v (.int _ n)=>I l-n.toNat|_=>0) ?_ ?_;exact⟨0,Z1,Z1⟩;rintro t ⟨i,z,rfl⟩;by_cases h:i<I l;have B:l[i]?=J l[i]:=ZhG h;obtain⟨y,D⟩:=a.2 _<|Zi5 h;obtain⟨k,q⟩:=ZhW y;have d:k<I g.nodes:=Z0;obtain⟨x,C⟩:=o _<|Zi5 d;simp[h,q,d];refine Zy (Mj x) Z1 ?_;simp;simp(disch:=omega) only[Zx];have w:V.agg [V.sl<|List.map vi<|U1 l g.nodes[k].Y,V.sl<|List.map vu g.nodes[k].data]=Yj (QZ g l l[i]):=by
  simp[QZ,q,d,Yj]
 refine⟨by grind [Y4],by grind [Y4],⟨i+1,Z0,?_,Z1⟩,Z0⟩;simp_all[ZiG,Zi8];have:i=I l:=Z0;simp_all;refine Zy (Mj j) Z1 ?_;simp_all[VB,Yx]
def Z39{g}(h:g.sm)(o:right g=xk):(VB g).sm:=by
 let⟨j,k,l⟩:=h;have a:=qy o;have d:=a.len;refine⟨by grind [VB],by simp_all[VB,U1],λn f=> ?_⟩;simp[VB]at f;obtain⟨x,p,rfl⟩:=f;let⟨q,r⟩:=a.2 x p;simp_all[Zi5,QZ,U1]
def UP:Gr:=⟨[],[]⟩
def Vh(g:Gr):V:=if right g=xk then .al [Yx<|VB g,vi 0]else .al [Yx UP,vi 1]
def Z0T{g:Gr}(a:g.sm):VC xP 47 xw [Yx g]<|Vh g:=by
 refine ZT Z1F follows Z2 c47 rfl ?_;simp[No];refine Zy (P0 a) Z1 ?_;cases d:right g;simp[Vh,d,UP,Yx];simp;refine Ug (Z3a a d 0 [] []) ?_;simp_all[Vh,Yx]
end Vm
namespace Vm
open Go Go.Proofs
end Vm
end
section
namespace Vm
open Go Go.Proofs
def g0:Gr:=⟨[⟨[],[]⟩,⟨[],[4]⟩,⟨[1],[]⟩,⟨[],[]⟩],[2,0]⟩
def g1:Gr:=⟨[],[0]⟩
def g2:Gr:=⟨[],[-1,-1]⟩
end Vm
end
section

end
section
namespace Vm
open Go Go.Proofs
def outs(g:Gr)(x:Int):List Int:=((g.nodes[x.toNat]?).getD default).Y
def Ng:Fn:=⟨10,[0,1,2,8,3,12,11,13,5,10],pQ [pR [(1,pS 0 2),pV 2<|pI 0],pQ [pC [pK 10 48 [.mm 1 0 2]] [pV 3<|.un .not<|.s 10]]<|pw (.s 3)<|px [pV 2<|pI 0],pR [pV 4<|pI 0],pQ [pR [pV 5<|pI 0,pV 6<|.len<|.m 1 0,pV 9<|.m 1 0]]<|po [0,1,2,3,4,5,6,9] 7 (pl (.s 5)<|.s 6) (pQ [pR [(8,pM (.bb (.az (.s 9) (.s 5) 2) 0 2) 2)]]<|pR [pV 4<|pa (.s 4)<|pa (pa (pI 1)<|.len<|.m 8 0)<|.len<|.m 8 1])<|pc 5]<|px [pV 2<|.s 4],[(2,.v)]⟩
def c24:ZN xP fresh sig [.fz] [] Tryz.f24=J Ng:=Z2
end Vm
end
section
namespace Vm
open Go Go.Proofs
def Tl(n:Nd):Nat:=1+I n.Y+I n.data
def Wy(l:List Nd):Nat:=(l.map Tl).sum
def words(g:Gr):Nat:=if right g=xk then Wy g.nodes else 0
def Zc2{l:List Nd}{i:Nat}{x:Nd}(h:l[i]?=J x):Wy (l.take<|i+1)=Wy (l.take i)+Tl x:=by
 unfold Wy;rw[ZiG,h,ZiR,Zl4];simp
def Zc0{l:List Nd}(h:∀n∈l,I n.Y<=100000/\I n.data<=100000)(i:Nat):Wy (l.take i)<=I l*200001:=by
 have:∀ {l:List Nd},(∀n∈l,I n.Y<=100000/\I n.data<=100000)->Wy l<=I l*200001:=by
  intro l;induction l with
  |nil=>intro _;simp[Wy]
  |cons x l f=>
   intro h;have g:=f λn a=>h n (by simp[a]);have j:=h x Z1;have k:Tl x<=200001:=by unfold Tl;omega
   have d:Wy (x::l)=Tl x+Wy l:=by simp[Wy]
   rw[d,ZiW,Zj1];omega
 refine Zif (this λn a=>h n<|ZiH a)<|Zir _ ?_;rw[ZiX];omega
def Z2l{g:Gr}(l:g.sm):VC xP 24 xw [Yx g]<|vi<|words g:=by
 refine ZT Z1p follows Z2 c24 rfl ?_;simp[Ng];refine Zy (P0 l) Z1 ?_;cases p:right g;simp[words,p];obtain⟨d,r,a⟩:=l;simp;refine S7 (λt=>∃i:Nat,i<=I g.nodes/\t=[.v<|Yx g,.m [.sl<|g.nodes.map Yj,.sl<|g.E.map vi],.v<|vi 0,.v<|.bool xw,.v<|vi (Wy (g.nodes.take i):Nat),.v<|vi i,.v<|vi<|I g.nodes,.no,.no,.v<|.sl<|g.nodes.map Yj]) (λt=>match get t 5 with|.v (.int _ n)=>I g.nodes-n.toNat|_=>0) ?_ ?_;exact⟨0,Z1,by simp[Wy]⟩;rintro t ⟨i,B,rfl⟩;by_cases h:i<I g.nodes;have y:g.nodes[i]?=J g.nodes[i]:=ZhG h;obtain⟨z,A⟩:=a _<|Zi5 h;have q:=Zc2 y;have u:=Zc0 a<|i+1;have o:I g.nodes*200001<=100000*200001:=Zir _ d;simp[h];generalize g.nodes[i]=x at*;have w:=Zx ((i:Int)+1) Z0 Z0;have f:=Zx (1+(I x.Y:Int)) Z0 Z0;have j:=Zx (1+(I x.Y:Int)+I x.data) Z0 Z0;unfold Tl at q;have k:=Zx ((Wy (g.nodes.take i):Int)+(1+(I x.Y:Int)+I x.data)) Z0 Z0;simp[w,f,j,k];exact⟨⟨i+1,Z0,by rw[q];omega,Z1⟩,Z0⟩;have:i=I g.nodes:=Z0;subst this;simp[words,p]
@[simp]theorem Zgf{α β:Type}{f:α->β}{l:List α}:(l.map f).take (I l)=l.map f:=ZiT (by simp)
end Vm
namespace Vm
open Go Go.Proofs
end Vm
end
section

end
section
namespace Vm
open Go Go.Proofs
structure Fo where
 ob:Ob
 ad:Int
 sl:List Int
 deriving Inhabited
def Xj(f:Fo):V:=.agg [vi f.ob.ab,vi f.ob.size,vi f.ob.Y,.bool f.ob.gone,vu f.ob.target,vu f.ad,.sl<|f.sl.map vu]
@[simp]theorem ZeE(f:Fo):(Xj f).cells=[vi f.ob.ab,vi f.ob.size,vi f.ob.Y,.bool f.ob.gone,vu f.ob.target,vu f.ad,.sl<|f.sl.map vu]:=rfl
@[simp]theorem Zg6(f:Fo):VJ (Xj f) 7=J (Xj f):=rfl
@[simp]theorem Zex(f:Fo):UJ (Xj f) 0 7=J (Xj f):=rfl
@[simp]theorem ZdL(f:Fo):Y0 (Xj f) 0=J (vi f.ob.ab):=rfl
@[simp]theorem ZdM(f:Fo):Y0 (Xj f) 1=J (vi f.ob.size):=rfl
@[simp]theorem ZdN(f:Fo):Y0 (Xj f) 2=J (vi f.ob.Y):=rfl
@[simp]theorem ZdO(f:Fo):Y0 (Xj f) 3=J (.bool f.ob.gone):=rfl
@[simp]theorem ZdP(f:Fo):Y0 (Xj f) 4=J (vu f.ob.target):=rfl
@[simp]theorem ZdQ(f:Fo):Y0 (Xj f) 5=J (vu f.ad):=rfl
@[simp]theorem ZdR(f:Fo):Y0 (Xj f) 6=J (.sl<|f.sl.map vu):=rfl
@[simp]theorem ZfU(l:List Fo):Xv 7 (l.map Xj)=xk:=JQ λ_=>rfl
structure Vw where
 ns:List Fo
 nm:List<|Int×Int
 tm:List<|Int×Int
 deriving Inhabited
def Vw.put(s:Vw)(f:Fo):Vw:=if f.ob.gone then {s with tm:=XY s.tm f.ad f.ob.target}else {s with ns:=s.ns++[f],nm:=XY s.nm f.ad (I s.ns)}
def Vw.dt(s:Vw)(w:Int):Int:=if w=0 then-1 else(Yb s.nm<|(Yb s.tm (adr w).1).getD (adr w).1).getD 0
def UO(s:Vw)(f:Fo):Nd:=⟨(f.sl.take f.ob.Y.toNat).map s.dt,f.sl.drop f.ob.Y.toNat⟩
def Vw.gr(s:Vw)(a:Z9):Gr:=⟨s.ns.map<|UO s,a.map s.dt⟩
def Fl(s:Vw){ws:Z9}(B:I ws<=1000000)(x:∀w∈ws,ZB w):
  Vv xP 45 [.fz,.mem [.fz],.mem [.fz]] [.sl<|ws.map vu,.agg [Ye vu s.tm],.agg [Ye vi s.nm]] (.al [.sl<|(ws.map s.dt).map vi,.agg [Ye vu s.tm],.agg [Ye vi s.nm]]):=by
 refine JV Z1E follows Z2 cTo Z2 ?_;simp[NQ];refine Uf 5 (I ws) (λi=>[(4,.v<|.sl<|((ws.take i).map s.dt).map vi),(5,.v<|vi i)]) (λ_=>True) Z1 Z1 trivial ?_;intro i A _;by_cases h:i<I ws;have y:ws[i]?=J ws[i]:=ZhG h;have r:=x _<|Zi5 h;have o:=Zx ((i:Int)+1) Z0 Z0;have q:List.take (i+1) (List.map (vi∘s.dt) ws)=List.take i (List.map (vi∘s.dt) ws)++[vi<|s.dt ws[i]]:=by
  rw[ZiG,Zi8,y];rfl
 have a:min i (I ws)+1<=Y4:=by unfold Y4;omega
 simp[h,o,q,a];split;simp_all[Vw.dt];rename_i p;refine Zy (RR r) Z1 ?_;have j:=Qk (f:=vu) (l:=s.tm) (k:=(adr ws[i]).1) (z:=.int .u64 0) (ok:=xk);cases n:Yb s.tm (adr ws[i]).1 with
 |none=>
  rw[n]at j;have d:=Qk (f:=vi) (l:=s.nm) (k:=(adr ws[i]).1) (z:=.int .i64 0) (ok:=xw);cases g:Yb s.nm (adr ws[i]).1 with
  |none=>rw[g]at d;simp[j,d,Vw.dt,p,n,g,o,a]
  |some t=>rw[g]at d;simp[j,d,Vw.dt,p,n,g,o,a]
 |some u=>
  rw[n]at j;have d:=Qk (f:=vi) (l:=s.nm) (k:=u) (z:=.int .i64 0) (ok:=xw);cases g:Yb s.nm u with
  |none=>rw[g]at d;simp[j,d,Vw.dt,p,n,g,o,a]
  |some t=>rw[g]at d;simp[j,d,Vw.dt,p,n,g,o,a]
 have:i=I ws:=Z0;simp_all
def Z8U{s:St}{st:Vw}{f:Fo}{N R:St->Prop}{X:Nat->St->Prop}(o:get s 6=.v (.sl<|st.ns.map Xj))(p:get s 7=.m [Ye vi st.nm])(q:get s 8=.m [Ye vu st.tm])(h:get s 12=.v (.al [Xj f,.bool xk]))(g:get s 10=.v (.bool xk))(u:I st.ns<=4000000)
  (r:∀a,get a 6=.v (.sl<|(st.put f).ns.map Xj)->get a 7=.m [Ye vi (st.put f).nm]->get a 8=.m [Ye vu (st.put f).tm]->get a 1=get s 1->get a 2=get s 2->get a 3=get s 3->N a):Yu xP rD s N X R:=by
 have j:=La (f:=vu) (l:=st.tm) (k:=f.ad) (x:=f.ob.target);have n:=La (f:=vi) (l:=st.nm) (k:=f.ad) (x:=(I st.ns:Int));have d:I st.ns+1<=Y4:=by unfold Y4;omega
 cases t:f.ob.gone;simp_all[rD,YX,Vw.put,Xj];simp_all[rD,YX,Vw.put]
def Z8T{s:St}{N R:St->Prop}{X:Nat->St->Prop}(a:get s 10=.v (.bool xw))(d:X 0 s):Yu xP rD s N X R:=by
 simp[rD,a,d]
structure Vw.sm (st:Vw) (roots:List Int):Prop where
 n:I st.ns<=100000
 f:∀f∈st.ns,0<=f.ob.Y/\f.ob.Y<=I f.sl/\I f.sl<=100000/\∀w∈f.sl,ZB w
 r:I roots<=100000/\∀w∈roots,ZB w
def Vw.sm.gr{st:Vw}{a:Z9}(h:st.sm a):(st.gr a).sm:=by
 refine⟨by simpa[Vw.gr]using h.n,by simpa[Vw.gr]using h.r.1,λn d=> ?_⟩;simp only[Vw.gr,Zi4]at d;obtain⟨f,g,rfl⟩:=d;obtain⟨_,_,j,_⟩:=h.f f g;grind [UO,List.length_map,List.length_take,List.length_drop]
def Z8S{s:St}{st:Vw}{roots:Z9}{b c t y sc:V}{K L M O:V}{N R:St->Prop}{X:Nat->St->Prop}(k:st.sm roots)(x:get s 1=.m [b,c,t,y,sc,K,L,M,O,.sl<|roots.map vu])(o:get s 6=.v (.sl<|st.ns.map Xj))(z:get s 7=.m [Ye vi st.nm])(A:get s 8=.m [Ye vu st.tm])
  (a:∀D,Wr D [(2,.ag 2),(3,.v)]=J (Vh<|st.gr roots)->R D):Yu xP rC s N X R:=by
 simp[rC,o,YX];refine Uf 16 (I st.ns) (λi=>[(15,.m [.sl<|((st.ns.take i).map<|UO st).map Yj,.sl []]),(16,.v<|vi i)]) (λ_=>True) (by simp[YX]) (by simp[YX]) trivial ?_;intro i Q _;by_cases h:i<I st.ns;have G:st.ns[i]?=J st.ns[i]:=ZhG h;obtain⟨H,T,p2,p3⟩:=k.f _<|Zi5 h;have S:=k.n;obtain⟨P,B⟩:=ZhW H;have d:P<=st.ns[i].sl.length:=Z0;have u:=Zx ((i:Int)+1) Z0 Z0;have q:List.take (i+1) (List.map (Yj∘UO st) st.ns)=List.take i (List.map (Yj∘UO st) st.ns)++[Yj<|UO st st.ns[i]]:=by
  rw[ZiG,Zi8,G];rfl
 have l:=Fl st (ws:=st.ns[i].sl.take P) ZgJ λw u=>p3 w<|ZiH u;have j:min i (I st.ns)+1<=Y4:=by unfold Y4;omega
 simp[YX,h,x,o,z,A,B,RB,d];rw[List.map_take]at l;refine Ug l ?_;simp[YX,QF,d,u,q,j,B,UO,Yj];have:i=I st.ns:=Z0;subst this;simp[YX,x,o,z,A];refine Ug (Fl st (ws:=roots) (by have:=k.r.1;omega) k.r.2) ?_;simp;have C:=Z0T k.gr;simp only[Vw.gr,Yx,Zkl]at C;refine Zy C Z1 ?_;have F:Vh (st.gr roots)=Vh {nodes:=List.map (UO st) st.ns,E:=List.map st.dt roots}:=rfl;rw[F]at a;generalize ({nodes:=List.map (UO st) st.ns,E:=List.map st.dt roots}:Gr)=g at*;unfold Vh at a⊢;split;rename_i p;rw[ZhS p]at a;simp;refine a _ ?_;simp[Wr,U9,Ts,Yx];rename_i p;rw[ZhP p]at a;simp[UP,Yx];refine a _ ?_;simp[Wr,U9,Ts,UP,Yx]
end Vm
end
section
namespace Vm
open Go Go.Proofs Go.RowKit Go.Conc
def FP{t}(h:t.size=71):t=#[t.getD 0 xy,t.getD 1 xy,t.getD 2 xy,t.getD 3 xy,t.getD 4 xy,t.getD 5 xy,t.getD 6 xy,t.getD 7 xy,t.getD 8 xy,t.getD 9 xy,t.getD 10 xy,t.getD 11 xy,t.getD 12 xy,t.getD 13 xy,t.getD 14 xy,t.getD 15 xy,t.getD 16 xy,t.getD 17 xy,t.getD 18 xy,t.getD 19 xy,t.getD 20 xy,t.getD 21 xy,t.getD 22 xy,t.getD 23 xy,t.getD 24 xy,t.getD 25 xy,t.getD 26 xy,t.getD 27 xy,t.getD 28 xy,t.getD 29 xy,t.getD 30 xy,t.getD 31 xy,t.getD 32 xy,t.getD 33 xy,t.getD 34 xy,t.getD 35 xy,t.getD 36 xy,t.getD 37 xy,t.getD 38 xy,t.getD 39 xy,t.getD 40 xy,t.getD 41 xy,t.getD 42 xy,t.getD 43 xy,t.getD 44 xy,t.getD 45 xy,t.getD 46 xy,t.getD 47 xy,t.getD 48 xy,t.getD 49 xy,t.getD 50 xy,t.getD 51 xy,t.getD 52 xy,t.getD 53 xy,t.getD 54 xy,t.getD 55 xy,t.getD 56 xy,t.getD 57 xy,t.getD 58 xy,t.getD 59 xy,t.getD 60 xy,t.getD 61 xy,t.getD 62 xy,t.getD 63 xy,t.getD 64 xy,t.getD 65 xy,t.getD 66 xy,t.getD 67 xy,t.getD 68 xy,t.getD 69 xy,t.getD 70 xy]:=by
 refine Zka Z0 λi f d=> ?_;have a:i<71:=ZgW;have e:t[i]=t.getD i xy:=by simp[Array.getD,f]
 rw[e]
 revert d
 match i,a with
 |0,_=>simp
 |1,_=>simp
 |2,_=>simp
 |3,_=>simp
 |4,_=>simp
 |5,_=>simp
 |6,_=>simp
 |7,_=>simp
 |8,_=>simp
 |9,_=>simp
 |10,_=>simp
 |11,_=>simp
 |12,_=>simp
 |13,_=>simp
 |14,_=>simp
 |15,_=>simp
 |16,_=>simp
 |17,_=>simp
 |18,_=>simp
 |19,_=>simp
 |20,_=>simp
 |21,_=>simp
 |22,_=>simp
 |23,_=>simp
 |24,_=>simp
 |25,_=>simp
 |26,_=>simp
 |27,_=>simp
 |28,_=>simp
 |29,_=>simp
 |30,_=>simp
 |31,_=>simp
 |32,_=>simp
 |33,_=>simp
 |34,_=>simp
 |35,_=>simp
 |36,_=>simp
 |37,_=>simp
 |38,_=>simp
 |39,_=>simp
 |40,_=>simp
 |41,_=>simp
 |42,_=>simp
 |43,_=>simp
 |44,_=>simp
 |45,_=>simp
 |46,_=>simp
 |47,_=>simp
 |48,_=>simp
 |49,_=>simp
 |50,_=>simp
 |51,_=>simp
 |52,_=>simp
 |53,_=>simp
 |54,_=>simp
 |55,_=>simp
 |56,_=>simp
 |57,_=>simp
 |58,_=>simp
 |59,_=>simp
 |60,_=>simp
 |61,_=>simp
 |62,_=>simp
 |63,_=>simp
 |64,_=>simp
 |65,_=>simp
 |66,_=>simp
 |67,_=>simp
 |68,_=>simp
 |69,_=>simp
 |70,_=>simp
 |i+71,h=>omega
def RC(v:Zb)(a n:Nat):Value:=match v with
 |.slice (J ⟨b,o,q⟩) _ c=>.slice (J<|if c=a then⟨b,o,q⟩else⟨b,o+a,q⟩) n<|c-a
 |v=>v
def UK(h:Hp)(x:Z5)(p:Nat)(o:Ob):Value:=.agg #[.int .i64 o.ab,.int .i64 o.size,.int .i64 o.Y,.bool o.gone,.int .u64 o.target,.int .u64 (Y3 (Zv h) ((p:Int)+1) o.ab).1,RC (x p) (o.ab+1).toNat o.size.toNat]
def obP(h:Hp)(p:Nat):List Ob:=(UQ h<|(p:Int)+1).1
def Ww(h:Hp)(x:Z5):Nat->Nat->List Value
 |0,_=>[]
 |n+1,p=>(obP h p).map (UK h x p)++Ww h x n (p+1)
noncomputable def seC:Code:=match Tryz.f44.body with|some c=>c|none=>.skip
noncomputable def clOps:Array Oper:=Lp<|Yp seC [1,1,1]
def Er(c:Nat)(b:Zg)(d:Z7)(fr:Zg)(cs:Z7)(w:Z3):Prop:=cs=d/\∃a,fr=b.at a [.inRegion clOps [1]]/\a.tmps[70]?=J (.chan<|J c)/\a.defers=[]
def Z8X{w G h x}(d:∀j,j<5->Rd w G (.sl<|(Zu h j).map vu) (x j)):Rd w G (ZE h)<|ZA h x:=by
 refine .agg _ _ rfl Z1 ?_;intro i y a
 match i,a with
 |0,a=>cases a;exact .int _ _
 |1,a=>cases a;exact .int _ _
 |2,a=>cases a;exact .int _ _
 |3,a=>cases a;exact .bool _
 |4,a=>cases a;exact .int _ _
 |5,a=>cases a;exact d 0 Z0
 |6,a=>cases a;exact d 1 Z0
 |7,a=>cases a;exact d 2 Z0
 |8,a=>cases a;exact d 3 Z0
 |9,a=>cases a;exact d 4 Z0
def Z17{w:Z3}{G:Z4}{h:Hp}(u:h.ok){x:Z5}(o:∀b,G b->b<xz (xj w))(z:∀j,j<5->Rd w G (.sl<|(Zu h j).map vu) (x j))(p:Int):
  Calls xP 74 #[ZA h x,.int .i64 p] w λe f=>∃s,e=.returned (.tuple #[s,.int .i64 (UQ h p).2])/\Below (xz<|xj w) w f/\Rd f (λb=>b<xz (xj f)) (.sl<|(UQ h p).1.map ZO) s:=by
 refine ZjL ((Z0N u (k:=p)).2 w G _ o rfl ?_) ?_;intro i y d
 match i,d with
 |0,d=>cases d;exact Z8X z
 |1,d=>cases d;exact .int _ _
 rintro e f ⟨v,rfl,q,A⟩;cases A with
 |al _ vs l n=>
  have t:=n 0 _ rfl;have g:=SA<|n 1 _ rfl;simp only[ZiW,ZiQ]at l;refine⟨vs.getD 0 xy,?_,q,t.mono λb a=> ?_⟩;congr 2;refine Zka ZhD λi r B=> ?_;have:i=0\/i=1:=by simp at B;omega
  obtain rfl|rfl:=this;simp[Array.getD,r];simp[Array.getD,r]at g;simpa using g;obtain⟨_,a⟩|a:=a;exact ZhO (o b a) q.size;exact a.2
def u71 a b:(#[a,b]:Array Value)++Array.replicate (71- (#[a,b]:Array Value).size) xy=#[a,b,xy,xy,xy,xy,xy,xy,xy,xy,xy,xy,xy,xy,xy,xy,xy,xy,xy,xy,xy,xy,xy,xy,xy,xy,xy,xy,xy,xy,xy,xy,xy,xy,xy,xy,xy,xy,xy,xy,xy,xy,xy,xy,xy,xy,xy,xy,xy,xy,xy,xy,xy,xy,xy,xy,xy,xy,xy,xy,xy,xy,xy,xy,xy,xy,xy,xy,xy,xy,xy]:=Z2
structure SSt (w:World) (h:Hp) (x:Nat->Value) (b4:Nat) (W:World):Prop where
 bp:Below (xz<|xj w) w W
 c2:W.heap[xz<|xj w]?=J (.cells #[.int .u64 h.base,.int .i64 h.cap,.int .i64 h.to,.bool h.M,.int .i64 h.Z,x 0,x 1,x 2,x 3,x 4] 30 (0,0))
 c4:W.heap[b4]?=J (.cells #[.int .u64 h.base,.int .i64 h.cap,.int .i64 h.to,.int .i64<|I h.H,.int .i64<|I h.aa,.int .i64<|I h.ah,.int .i64<|I h.ak] 62 (0,0))
def SSt.below{w W W' h x d}(s:SSt w h x d W)(a:Below (xz<|xj W) W W'):SSt w h x d W':=
 ⟨s.bp.trans<|a.mono s.bp.size,(a.block _<|Y1 s.c2).trans s.c2,(a.block _<|Y1 s.c4).trans s.c4⟩
def LO{W G}{l:Z9}{y}(h:Rd W G (.sl<|l.map vu) y):∃a c,y=.slice a (I l) c:=by
 generalize f:l.map vu=L at h;have j:I L=I l:=by rw[<-f,Zia]
 cases h with
 |nil a c d=>simp_all
 |sl _ b o cap k vs d g=>simp_all
def Z9X{P W T f}(p:P.underlying T=J (.slice f))(q:(Go.sizeOf f).run P W=.ok 1 W){b o len cap:Nat}{d a:Int}(g:0<=d)(h2:d<=a)(r:a<=cap):
  (Instr.slice T (.slice (J ⟨b,o,U⟩) len cap) (J<|.int .i64 d) (J<|.int .i64 a) U).run P W=.ok (RC (.slice (J ⟨b,o,U⟩) len cap) d.toNat (a-d).toNat) W:=by
 obtain⟨l,rfl⟩:=ZhW g;obtain⟨k,rfl⟩:=ZhW (Z0:0<=a);have h:l<=k:=Z0;have j:k<=cap:=Z0;have n:(k- (l:Int)).toNat=k-l:=Z0;simp[Instr.slice,Instr.sliceBounds,Instr.sliceBound,asIntOf,Zip p,q,h,j,n,RC,Addr.add];grind
def Z94{W G}{l:Z9}{y}(h:Rd W G (.sl<|l.map vu) y)(f:0<I l){a n k}(e:y=.slice a n k):∃b o,a=J ⟨b,o,U⟩/\I l<=k/\k<=maxLen:=by
 generalize j:l.map vu=L at h;cases h with
 |nil a c d=>simp_all
 |sl _ b o cap p vs d g=>grind
def Z91{W G}{l:Zk}{y}(h:Rd W G (.sl<|l.map ZO) y):∃a c,y=.slice a (I l) c:=by
 generalize f:l.map ZO=L at h;have j:I L=I l:=by rw[<-f,Zia]
 cases h with
 |nil a c d=>simp_all
 |sl _ b o cap k vs d g=>simp_all
def jr:Tryz.f44.body=J seC:=Z2
def Z6g{Q c Post es}{fn:Func}{code d a}{b:Zg}{w cs}(f:fn.body=J code)(h2:fn.body=J d)(h:LS Q c Post es (b.at a [.code code]) cs w):LS Q c Post es (b.at a [.code d]) cs w:=by
 simp_all
def Zaf(b:Zg)(b7:Z7)(w:Z3)(h:Hp)(hh:h.ok)(x:Z5)(c:Nat)(G:Z4)(hG:∀b,G b->b<xz (xj w))(hr:∀j,j<5->Rd w G (.sl<|(Zu h j).map vu) (x j))
  (d6:∀p,p<4->I (obP h p)<=1000000/\∀o∈obP h p,0<=o.ab/\0<=o.size/\o.ab+1+o.size<=I (Zu h p)):
  LS xP c (Er c b b7) ((Ww h x 4 0).map .send) (b.at {tmps:=#[ZA h x,.chan<|J c]++Array.replicate (71- (#[ZA h x,.chan<|J c]:Array Value).size) xy,defers:=[]} [.code seC]) b7 w:=by
 obtain⟨Q,k0,e0⟩:=LO<|hr 0 Z0;obtain⟨R,k1,e1⟩:=LO<|hr 1 Z0;obtain⟨S,k2,e2⟩:=LO<|hr 2 Z0;obtain⟨T,k3,e3⟩:=LO<|hr 3 Z0;have A:=ZhK<|And.intro e0<|And.intro e1<|And.intro e2 e3;have HL:∀W,Below (xz<|xj w) w W->Calls xP 20 #[ZA h x] W λe w'=>e=.returned (Ti<|Zv h)/\Below (xz<|xj W) W w':=λW N=>
  Ke (G:=G) (λb P=>ZhO (hG b P) N.size) λj hj=>(hr j hj).keep (λb P=>N.block b<|hG b P) λ_ q=>q
 have HO:∀W,Below (xz<|xj w) w W->∀p,Calls xP 74 #[ZA h x,.int .i64 p] W λe w'=>∃s,e=.returned (.tuple #[s,.int .i64 (UQ h p).2])/\Below (xz<|xj W) W w'/\Rd w' (λb=>b<xz (xj w')) (.sl<|(UQ h p).1.map ZO) s:=λW N p=>
  Z17 hh (G:=G) (λb P=>ZhO (hG b P) N.size) (λj hj=>(hr j hj).keep (λb P=>N.block b<|hG b P) λ_ q=>q) p
 unfold ZA at HL HO;rw[e0,e1,e2,e3]at HL HO;have HL:=ZhK HL;have HO:=ZhK HO;have HF:=ZhK<|And.intro hG hr;have HB:=ZhK d6;clear hG hr d6;unfold ZA;rw[e0,e1,e2,e3];refine Z6g (fn:=Tryz.f44) rfl jr ?_;rw[u71];refine LS.cr (LS.dk λK u=> ?_);go_wp2;obtain⟨w2,z⟩:∃w2,w2=w.alloc (.cells #[.int .u64 h.base,.int .i64 h.cap,.int .i64 h.to,.bool h.M,.int .i64 h.Z,.slice Q (I<|Zu h 0) k0,.slice R (I<|Zu h 1) k1,.slice S (I<|Zu h 2) k2,.slice T (I<|Zu h 3) k3,x 4] 30):=⟨_,rfl⟩;rw[<-z];have b2:w2.heap[xz<|xj w]?=J (.cells #[.int .u64 h.base,.int .i64 h.cap,.int .i64 h.to,.bool h.M,.int .i64 h.Z,.slice Q (I<|Zu h 0) k0,.slice R (I<|Zu h 1) k1,.slice S (I<|Zu h 2) k2,.slice T (I<|Zu h 3) k3,x 4] 30 (0,0)):=by rw[z];exact Zi7 ..
 have z2:xz (xj w2)=xz (xj w)+1:=by rw[z];simp
 have q2:Below (xz<|xj w) w w2:=by rw[z];exact(ZhY _ _).alloc (ZhL _) _
 clear z;have y2:∀j,w2.cell? ⟨xz<|xj w,j,U⟩=(#[.int .u64 h.base,.int .i64 h.cap,.int .i64 h.to,.bool h.M,.int .i64 h.Z,.slice Q (I<|Zu h 0) k0,.slice R (I<|Zu h 1) k1,.slice S (I<|Zu h 2) k2,.slice T (I<|Zu h 3) k3,x 4]:Array Value)[j]? :=λj=>ZhQ _ _ _ _ _ _ b2;have d:=ZhK<|And.intro b2<|And.intro z2 q2;clear b2 z2 q2;refine LS.cr (LS.dk λK u=> ?_)
 go_wp2_with (first
  |(go_at_call 20;refine(HL.out _ d.out.2.2).mono ?_;rintro e w3 ⟨rfl,b9⟩;unfold Ti Zv;dsimp only;have L:=ZhK b9;clear b9))
 obtain⟨W,N⟩:∃W,W=w3.alloc (.cells #[.int .u64 h.base,.int .i64 h.cap,.int .i64 h.to,.int .i64<|I h.H,.int .i64<|I h.aa,.int .i64<|I h.ah,.int .i64<|I h.ak] 62):=⟨_,rfl⟩;obtain⟨X,a8⟩:∃X,X=xz (xj w3):=⟨_,rfl⟩;rw[<-N,<-a8];have f:SSt w h x X W:=by
  have hz:=L.out.size;rw[N,a8];exact⟨(d.out.2.2.trans<|L.out.mono d.out.2.2.size).alloc (by have:=d.out.2.2.size;omega) _,by rw[ZhU _ _ _ (by have:=Y1 d.out.1;omega)];rw[e0,e1,e2,e3];exact(L.out.block _<|Y1 d.out.1).trans d.out.1,Zi7 ..⟩
 clear N a8 L d y2 e0 e1 e2 e3;have y2:∀j,W.cell? ⟨xz<|xj w,j,U⟩=(#[.int .u64 h.base,.int .i64 h.cap,.int .i64 h.to,.bool h.M,.int .i64 h.Z,.slice Q (I<|Zu h 0) k0,.slice R (I<|Zu h 1) k1,.slice S (I<|Zu h 2) k2,.slice T (I<|Zu h 3) k3,x 4]:Array Value)[j]? :=λj=>Zh3;refine LS.cr<|LS.cr (LS.dk λK u=> ?_);go_wp2
 refine LS.block (LS.oy (λn es a W=>∃(p:Nat) (t:Za),p+n=4/\es=(Ww h x n p).map .send/\a=⟨t,[]⟩/\t.size=71/\t.getD 1 xy=.chan (J c)/\t.getD 2 xy=.pointer (J ⟨xz<|xj w,0,U⟩)/\t.getD 4 xy=.pointer (J ⟨X,0,U⟩)/\
  t.getD 24 xy=.agg #[.slice Q (I<|Zu h 0) k0,.slice R (I<|Zu h 1) k1,.slice S (I<|Zu h 2) k2,.slice T (I<|Zu h 3) k3]/\t.getD 25 xy=.int .i64 p/\SSt w h x X W) (n:=4) ⟨0,_,rfl,rfl,rfl,rfl,rfl,rfl,rfl,rfl,rfl,f⟩ ?_)
 clear f y2 W;rintro n es a W ⟨p,t,hp,rfl,rfl,D,t1,t2,t4,F,H,f⟩ ih;have IH:=ZhK ih;clear ih;rw[FP D,t1,t2,t4,F,H];obtain⟨g,hg⟩:∃g:Z5,∀i,t.getD i xy=g i:=⟨_,λ_=>rfl⟩;simp only[hg];clear hg t1 t2 t4 F H D t;have y2:∀j,W.cell? ⟨xz<|xj w,j,U⟩=(#[.int .u64 h.base,.int .i64 h.cap,.int .i64 h.to,.bool h.M,.int .i64 h.Z,.slice Q (I<|Zu h 0) k0,.slice R (I<|Zu h 1) k1,.slice S (I<|Zu h 2) k2,.slice T (I<|Zu h 3) k3,x 4]:Array Value)[j]? :=λj=>Zh3;cases n with
 |zero=>
  have d8:((p:Int)<4)=False:=Zjv Z0;refine LS.cr (LS.dk λK u=> ?_);go_wp2;refine LS.cr<|LS.oi rfl<|LS.exit rfl<|LS.region ?_;refine LS.value (i:=0) (l:=[1]) rfl rfl rfl ?_;exact LS.cz ⟨rfl,_,rfl,rfl,rfl⟩
 |succ n=>
  have d8:((p:Int)<4)=True:=Zk3 Z0;have f7:p<4:=Z0;refine LS.cr (LS.dk λK u=> ?_);go_wp2;refine LS.cr<|LS.oj rfl<|LS.skip<|LS.cr<|LS.block<|LS.cr (LS.dk λK u=> ?_);obtain⟨ap,kp,ep⟩:=LO<|HF.out.2 p Z0;have d5:∀W,(Instr.index 158 (.agg #[.slice Q (I<|Zu h 0) k0,.slice R (I<|Zu h 1) k1,.slice S (I<|Zu h 2) k2,.slice T (I<|Zu h 3) k3])<|.int .i64 (p:Int)).run xP W=.ok (.slice ap (I<|Zu h p) kp) W:=by
   intro W;have hT:xP.underlying 158=J (.array 4 28):=Z2;have:p=0\/p=1\/p=2\/p=3:=Z0;rw[<-ep];obtain rfl|rfl|rfl|rfl:=this;rw[A.out.1];rfl;rw[A.out.2.1];rfl;rw[A.out.2.2.1];rfl;rw[A.out.2.2.2];rfl
  have EP:=ZhK ep;clear ep;go_wp2;clear d5;have b6:=Zx ((p:Int)+1) Z0 Z0;refine LS.cr (LS.dk λK u=> ?_);go_wp2;have d:=ZhK f;clear f;refine LS.cr (LS.dk λK u=> ?_)
  go_wp2_with (first
   |(go_at_call 74;refine(HO.out _ d.out.bp _).mono ?_;rintro e W5 ⟨s5,rfl,c0,r⟩;obtain⟨a5,k5,rfl⟩:=Z91 r;have a4:=ZhK<|And.intro c0 r;clear c0 r))
  refine LS.cr (LS.dk λK u=> ?_);go_wp2;have f:=d.out.below a4.out.1;have r:=a4.out.2;clear d a4 y2 W d8;rename_i W5;rw[show(UQ h<|(p:Int)+1).1=obP h p from rfl]at r⊢;have Z:=Z7l r λb P=>P;obtain⟨f6,d7⟩:=HB.out p f7;have d0:Ww h x (n+1) p=(obP h p).map (UK h x p)++Ww h x n (p+1):=rfl;rw[d0];clear d0 r;have HX:=ZhK<|And.intro Z<|And.intro f6 d7;clear Z d7
  refine LS.block (LS.oy (λm es a W=>∃(i:Nat) (t:Za),i+m=I (obP h p)/\es=(((obP h p).drop i).map (UK h x p)++Ww h x n (p+1)).map .send/\a=⟨t,[]⟩/\t.size=71/\t.getD 1 xy=.chan (J c)/\t.getD 2 xy=.pointer (J ⟨xz<|xj w,0,U⟩)/\t.getD 4 xy=.pointer (J ⟨X,0,U⟩)/\
   t.getD 6 xy=.slice ap (I<|Zu h p) kp/\t.getD 7 xy=.int .i64 ((p:Int)+1)/\t.getD 24 xy=.agg #[.slice Q (I<|Zu h 0) k0,.slice R (I<|Zu h 1) k1,.slice S (I<|Zu h 2) k2,.slice T (I<|Zu h 3) k3]/\t.getD 25 xy=.int .i64 p/\t.getD 37 xy=.slice a5 (I<|obP h p) k5/\t.getD 38 xy=.int .i64 (I<|obP h p)/\t.getD 39 xy=.int .i64 i/\
   SSt w h x X W/\Below (xz<|xj W5) W5 W) (n:=I<|obP h p) ⟨0,_,Z0,rfl,rfl,rfl,rfl,rfl,rfl,rfl,rfl,rfl,rfl,rfl,rfl,rfl,f,ZhY _ _⟩ ?_)
  clear f g b6;rintro m es a W ⟨i,t,hi,rfl,rfl,D,t1,t2,t4,t6,t7,F,H,f0,f1,f2,f,k⟩ ih;have f3:=ZhK ih;clear ih;rw[FP D,t1,t2,t4,t6,t7,F,H,f0,f1,f2];obtain⟨g,hg⟩:∃g:Z5,∀i,t.getD i xy=g i:=⟨_,λ_=>rfl⟩;simp only[hg];clear hg t1 t2 t4 t6 t7 F H f0 f1 f2 D t;cases m with
  |zero=>
   have b3:((i:Int)< (I (obP h p):Int))=False:=Zjv Z0;refine LS.cr (LS.dk λK u=> ?_);go_wp2;refine LS.cr<|LS.oi rfl<|LS.exit rfl<|LS.inBlock ?_;have b6:=Zx ((p:Int)+1) Z0 Z0;have C:(obP h p).drop i=[]:=Zly Z0;rw[C];clear C b3;refine LS.dk λK u=> ?_;go_wp2;exact IH.out n _ _ _ Z0 ⟨p+1,_,Z0,rfl,rfl,rfl,rfl,rfl,rfl,rfl,Z1,f⟩
  |succ m=>
   have b5:i< I (obP h p):=Z0;obtain⟨o,ho⟩:∃o,(obP h p)[i]?=J o:=⟨_,ZhG b5⟩;have b3:((i:Int)< (I (obP h p):Int))=True:=Zk3 Z0;obtain⟨g5,o5,f8,e5,c7,g7,f5,B⟩|⟨a9,c9,e9,f4⟩:=HX.out.1;case inr=>rw[f4]at b5;simp at b5
   injection e5 with e5 _ e6;subst e5;subst e6;obtain⟨v0,v1,v2,v3,v4⟩:=B i o ho;have y:=k.block _ f5;have y0:W.cell? ⟨g5,o5+i*5,U⟩=J (.int .i64 o.ab):=by rw[Ziz y];exact v0
   have y1:W.cell? ⟨g5,o5+i*5+1,U⟩=J (.int .i64 o.size):=by rw[Ziz y];exact v1
   have y2:W.cell? ⟨g5,o5+i*5+2,U⟩=J (.int .i64 o.Y):=by rw[Ziz y];exact v2
   have y3:W.cell? ⟨g5,o5+i*5+3,U⟩=J (.bool o.gone):=by rw[Ziz y];exact v3
   have y4:W.cell? ⟨g5,o5+i*5+4,U⟩=J (.int .u64 o.target):=by rw[Ziz y];exact v4
   clear v0 v1 v2 v3 v4 y B;have HC:=ZhK c7;clear c7;refine LS.cr (LS.dk λK u=> ?_);go_wp2;refine LS.cr<|LS.oj rfl<|LS.skip<|LS.cr<|LS.block<|LS.cr (LS.dk λK u=> ?_);go_wp2;obtain⟨W6,O⟩:∃W6,W6=W.alloc (.cells #[.int .i64 o.ab,.int .i64 o.size,.int .i64 o.Y,.bool o.gone,.int .u64 o.target] 122):=⟨_,rfl⟩;obtain⟨Y,b1⟩:∃Y,Y=xz (xj W):=⟨_,rfl⟩;rw[<-O,<-b1];have b0:Below (xz<|xj W) W W6:=by rw[O];exact(ZhY _ _).alloc (ZhL _) _
   have q6:W6.heap[Y]?=J (.cells #[.int .i64 o.ab,.int .i64 o.size,.int .i64 o.Y,.bool o.gone,.int .u64 o.target] 122 (0,0)):=by rw[O,b1];exact Zi7 ..
   have a6:=f.below b0;have b8:=k.trans<|b0.mono k.size;clear O b1 b0 f k y0 y1 y2 y3 y4 W;have z4:∀j,W6.cell? ⟨X,j,U⟩=(#[.int .u64 h.base,.int .i64 h.cap,.int .i64 h.to,.int .i64<|I h.H,.int .i64<|I h.aa,.int .i64<|I h.ah,.int .i64<|I h.ak]:Array Value)[j]? :=λj=>ZhQ _ _ _ _ _ _ a6.c4;have zo:∀j,W6.cell? ⟨Y,j,U⟩=(#[.int .i64 o.ab,.int .i64 o.size,.int .i64 o.Y,.bool o.gone,.int .u64 o.target]:Array Value)[j]? :=λj=>ZhQ _ _ _ _ _ _ q6;have d:=ZhK<|And.intro a6<|And.intro b8 q6;clear a6 b8 q6;have HA:=ZhK λW=>A5 hh.bc ((p:Int)+1) o.ab W;unfold Ti Zv at HA;dsimp only at HA;refine LS.cr (LS.dk λK u=> ?_)
   go_wp2_with (first
    |(go_at_call 19;refine(HA.out _).mono ?_;rintro e W7 ⟨rfl,c1⟩;have M:=ZhK c1;clear c1))
   have f:=d.out.1.below M.out;have k:=d.out.2.1.trans<|M.out.mono d.out.2.1.size;have q7:=(M.out.block _<|Y1 d.out.2.2).trans d.out.2.2;clear z4 zo d M HA;rename_i W7;clear W6;obtain⟨f9,h2,g6⟩:=HX.out.2.2 o<|ZhR ho;have d9:0< I (Zu h p):=Z0;obtain⟨bw,ow,ew,g3,g8⟩:=Z94 (HF.out.2 p Z0) d9 EP.out;subst ew;have C:(obP h p).drop i=o::(obP h p).drop (i+1):=by
    obtain⟨h1,rfl⟩:=ZhH.1 ho;exact ZiD h1
   rw[C];rw[show(((o::(obP h p).drop (i+1)).map (UK h x p)++Ww h x n (p+1)).map Ev.send)=.send (UK h x p o)::(((obP h p).drop<|i+1).map (UK h x p)++Ww h x n (p+1)).map .send from rfl];clear C ho b3;have zo:∀j,W7.drew.cell? ⟨Y,j,U⟩=(#[.int .i64 o.ab,.int .i64 o.size,.int .i64 o.Y,.bool o.gone,.int .u64 o.target]:Array Value)[j]? :=λj=>ZhQ _ _ _ _ _ _ (show W7.drew.heap[Y]?=_ from q7);have g4:=Su hh p;have b6:=Zx (o.ab+1) Z0 Z0;have z:=Zx (o.ab+1+o.size) Z0 Z0;have e4:(0:Int)<=o.ab+1:=Z0;have e7:o.ab+1<=o.ab+1+o.size:=Z0;have e8:o.ab+1+o.size<=(kp:Int):=Z0;obtain⟨av,nv,cv,a7⟩:∃av nv cv,.slice av nv cv=RC (x p) (o.ab+1).toNat o.size.toNat:=by rw[EP.out];exact⟨_,_,_,rfl⟩
   have g9:∀W,(Instr.slice 28 (.slice (J ⟨bw,ow,U⟩) (I<|Zu h p) kp) (J<|.int .i64<|o.ab+1) (J<|.int .i64<|o.ab+1+o.size) U).run xP W=.ok (.slice av nv cv) W:=by
    intro W;have hT:xP.underlying 28=J (.slice 24):=Z2;rw[a7,EP.out,Z9X hT Z1 e4 e7 e8,show o.ab+1+o.size- (o.ab+1)=o.size by omega]
   clear e4 e7 e8 zo;have zo:∀j,W7.drew.cell? ⟨Y,j,U⟩=(#[.int .i64 o.ab,.int .i64 o.size,.int .i64 o.Y,.bool o.gone,.int .u64 o.target]:Array Value)[j]? :=λj=>ZhQ _ _ _ _ _ _ (show W7.drew.heap[Y]?=_ from q7);have HV:=ZhK a7;clear a7;have d:=ZhK<|And.intro f k;clear f k q7;refine LS.send (n:=16) follows Z2 rfl rfl rfl rfl rfl rfl ?_;simp only[Zl5,List.take_zero];change wpStill xP _ W7.drew _ _ _;repeat still_step
   refine wpStill_nil ⟨rfl,?_,?_⟩;unfold UK;rw[<-HV.out];rfl
   .refine LS.inBlock ?_;have h0:=Zx ((i:Int)+1) Z0 Z0;refine LS.dk λK u=> ?_;go_wp2;exact f3.out m _ _ _ Z0 ⟨i+1,_,Z0,rfl,rfl,rfl,rfl,rfl,rfl,rfl,rfl,rfl,rfl,rfl,rfl,Z1,SSt.below d.out.1 (ZhY _ _).drew,d.out.2.drew⟩
end Vm
end
section
namespace Vm
open Go Go.Proofs Go.Conc
open Go.RowKit (Below)
section
section
variable {c:Ctx}{B:Nat}{G Kf:Z4}{s:St}{a:Act}{w w0:Z3}{h:GH}{S:SS}{n0:Nat}{fix:Zc}{T0:Za}{t:Nat}{v:Zb}{x:V}
def WM{p}(d:p≠t):(a.put (J t) v).tmps[p]?=a.tmps[p]? :=by
 simp[Act.put,Zju d]
def RT(d:t<a.tmps.size):(a.put (J t) v).tmps[t]?=J v:=by
 simp[Act.put,d]
theorem R1:(a.put (J t) v).tmps.size=a.tmps.size:=by simp[Act.put]
theorem Z9o{p k u a d}(f:RelK c.P B s w h a p u<|J4 c p k):RelK c.P B s w h d p u<|J4 c p k:=by
 cases k<;>exact f
def RelG.set(j:RelG c B G s a w h<|Yq c S)(n:S.at t=U):RelG c B G s (a.put (J t) v) w h<|Yq c S:=by
 refine⟨j.ok,λp g d=> ?_,λp g=> ?_⟩;by_cases e:p=t;subst e;rw[Yw,n]at d;cases d;let⟨u,o,f⟩:=j.ab p g d;refine⟨u,by simp_all[WM],?_⟩;rw[Yw]at f⊢;cases l:S.at p with
 |none=>rw[Yw,l]at d;cases d
 |some k=>grind [Z9o]
 refine absurd ?_ g;rw[Yw];cases S.at p<;>exact VX _
def RelS.set(l:RelS Kf fix T0 c B G w0 n0 s a w S)(k:S.at t=U):RelS Kf fix (a.put (J t) v).tmps c B G w n0 s (a.put (J t) v) w S:=by
 let⟨⟨h,d,f⟩,g,n,o,j⟩:=l;exact⟨⟨h,d.set k,f⟩,g,.refl _ _,by grind [R1],j⟩
def RelS.base(h:RelS Kf fix T0 c B G w0 n0 s a w S):RelS Kf fix a.tmps c B G w n0 s a w S:=by
 let⟨d,f,j,g⟩:=h;exact⟨d,f,.refl _ _,g⟩
theorem RelS.put(C:RelS Kf fix T0 c B G w0 n0 s a w S)(u:S.at t=U)(f:∀y∈S,c.ix y.1≠c.ix t)(A:t<n0)(D:Rd w G x v):RelS Kf fix (a.put (J t) v).tmps c B G w n0 (YC s (c.ix t)<|.v x) (a.put (J t) v) w<|(t,.fz)::S:=by
 let⟨⟨h,j,o⟩,q,H,K,r⟩:=C;refine⟨⟨h,⟨j.ok,λp d g=> ?_,λp d=> ?_⟩,o⟩,λp d=> ?_,.refl _ _,by grind [R1],r⟩;rw[Yw]at g⊢;by_cases e:t=p;subst e;simp[SS.at,ZiC];exact⟨v,RT Z0,x,by simp[eval,YX],D.mono λb z=>GH.bo<|j.ok.eh b z⟩;simp[SS.at,ZhP e]at g⊢;have l:=(j.set (v:=v) u).me (t:=YC s (c.ix t)<|.v x) λy F=>by rw[YX,ZhP<|f y F]
 cases n:S.at p with
 |none=>rw[n]at g;cases g
 |some k=>
  have:=l.ab p (by grind [Yw,VX]) (by simp_all[Yw]);simp_all[Yw]
 refine absurd ?_ d;rw[Yw];split<;>exact VX _;by_cases e:t=p;simp_all[SS.at];simp[SS.at,ZhP e]at d;rw[YX,ZhP<|f _<|QV d];exact q p d
end
noncomputable def cV:Ctx:= {P:=xP,ix:=(vf xP).ix,own:=λ_=>xw,fresh,sig:=Dy,tr:=[3],n:=82}
def qp{code S st fl B G Kf s a w w0 T0 N X Rt}(hc:comp (vf xP) code S=J (st,fl))(g:RelS Kf [4,23] T0 cV B G w0 82 s a w S)(h:Yu xP st s N X Rt):
  code.wp xP (Post Kf [4,23] T0 cV B G w0 82 fl N X Rt) a w:=
 At (fc:=vf xP) follows (λp f q j d=>D0 (Zj8 _ f) ZgI d) rfl rfl rfl (ZhL _) code (Fu (λ_=>trivial) code) hc g h
noncomputable def bodyC:Code:=Yp ofC [1,1,1,1,1,1,1,0,1,0,0]
noncomputable def ops9:Array Oper:=Lp<|Yp ofC [1,1,1,1,1,1,1,0,1,0,0,0]
def Zdi:bodyC=.seq (.region 9 ops9 xw) (Yp ofC [1,1,1,1,1,1,1,0,1,0,0,1]):=Z2
def Z9s:Yp ofC [1,1,1,1]=.seq (Yp ofC [1,1,1,1,0]) (.seq (Yp ofC [1,1,1,1,1,0])<|.seq (Yp ofC [1,1,1,1,1,1,0])<|.seq (.seq (Yp ofC [1,1,1,1,1,1,1,0,0])<|.block 0<|.loop bodyC)<|Yp ofC [1,1,1,1,1,1,1,1]):=Z2
noncomputable def ops8:Array Oper:=Lp<|Yp ofC [1,1,1,1,1,1,1,0,0]
def Z8R:Yp ofC [1,1,1,1,1,1,1,0,0]=.region 8 ops8 xw:=Z2
def zF:Value:=.agg #[.int .i64 0,.int .i64 0,.int .i64 0,.bool xw,.int .u64 0,.int .u64 0,.slice U 0 0]
def Z7H:∃t a d inf o,ops9[0]?=J o/\o.guard=U/\o.dst=J 24/\o.op=.recv t a xk/\a=.tmp 23/\xP.underlying t=J (.chan d 124)/\xP.info? 124=J inf/\inf.zero=J zF:=
 ⟨_,_,_,_,_,rfl,rfl,rfl,rfl,rfl,rfl,rfl,rfl⟩
def Z7I:∃o,ops9[1]?=J o/\o.guard=U/\o.dst=J 25/\o.op=.extract (.tmp 24) 1:=⟨_,rfl,rfl,rfl,rfl⟩
def Z7J:ops9.size=2:=rfl
def D6:SS:=[(1,.mem [.fz,.fz,.fz,.fz,.fz,.fz,.fz,.fz,.fz,.fz]),(2,.mem [.fz,.fz]),(3,.fz),(5,.own 124),(6,.mem [.own 106]),(7,.mem [.own 120])]
structure AtL (B:Nat) (G:Nat->Prop) (wS:World) (c:Nat) (st:Vw) (hc:List V) (s:St) (a:Act) (w:World):Prop where
 vj:∃T0 w0,RelS G [4,23] T0 cV B G w0 82 s a w D6
 same:Same G wS w
 ch:a.tmps[23]?=J (.chan<|J c)
 s1:get s 1=.m hc
 s6:get s 6=.v (.sl<|st.ns.map Xj)
 s7:get s 7=.m [Ye vi st.nm]
 s8:get s 8=.m [Ye vu st.tm]
theorem AtL.put{B G wS c st hc s a w}(h:AtL B G wS c st hc s a w){v x b}(p:Rd wS G x v):
  ∃g d T0 w0,g=(a.put (J 24)<|.tuple #[v,.bool b]).put (J 25) (.bool b)/\RelS G [4,23] T0 cV B G w0 82 d g w D4/\g.tmps[23]?=J (.chan<|J c)/\get d 1=.m hc/\get d 6=.v (.sl<|st.ns.map Xj)/\get d 7=.m [Ye vi st.nm]/\get d 8=.m [Ye vu st.tm]/\get d 12=.v (.al [x,.bool b])/\get d 10=.v (.bool b):=by
 let⟨T0,w0,o⟩:=h.vj;have j:Rd w G (.al [x,.bool b])<|.tuple #[v,.bool b]:=by
  refine .al _ _ rfl λi c f=> ?_
  match i,f with
  |0,f=>cases f;exact p.keep h.same λ_ q=>q
  |1,f=>cases f;exact .bool _
 have n:=(o.put (t:=24) rfl ZgK Z0 j).put (t:=25) (v:=.bool b) (x:=.bool b) rfl ZgK Z0<|.bool _;have k:cV.ix 24=12:=ZgK;have l:cV.ix 25=10:=ZgK;rw[k,l]at n;refine⟨_,_,_,_,rfl,n.fg (R:=D4) Z2,?_,?_,?_,?_,?_,?_,?_⟩;rw[WM Z0,WM Z0];exact h.ch;all_goals simp[YX,h.s1,h.s6,h.s7,h.s8]
def Z98{B G wS c hc k}{b:Zg}{Post}fin
  (K:Rd wS G (Xj ⟨⟨0,0,0,xw,0⟩,0,[]⟩) zF)
  (a0:∀s a w T0 w0,RelS G [4,23] T0 cV B G w0 82 s a w D5->get s 1=.m hc->get s 6=.v (.sl<|fin.ns.map Xj)->get s 7=.m [Ye vi fin.nm]->get s 8=.m [Ye vu fin.tm]->LS xP c Post [] (b.at a k) [] w):
  ∀(p:List<|Fo×Value) st,(∀y∈p,Rd wS G (Xj y.1) y.2)->I st.ns+I p<=4000000->(p.map (·.1)).foldl Vw.put st=fin->∀s a w,AtL B G wS c st hc s a w->
   LS xP c Post (p.map (λy=>.recv y.2)++[.closed zF]) (b.at a<|.code bodyC:: .inLoop bodyC:: .inBlock 0::k) [] w:=by
 let⟨t,T,d,inf,o,o1,o2,o3,o4,C,o6,o7,o8⟩:=Z7H;let⟨o',p1,p2,p3,p4⟩:=Z7I;have ext:∀(a:Act) w v b,a.tmps[24]?=J (.tuple #[v,.bool b])->(execOp a.eval o').run xP w=.ok _ w:=λa w v b h=>by
  have he:=Act.aj a 24 _ h;unfold execOp;simp[p4,he];rfl
 have enter:∀ {es} {e:Ev} {v:Zb} {fl:Bool} {s:St} {st:Vw} {a:Act} {w:Z3},e.val=.tuple #[v,.bool fl]->((∃v,e=.recv v)\/e=.closed zF)->AtL B G wS c st hc s a w->
   LS xP c Post es (b.at ((a.put (J 24)<|.tuple #[v,.bool fl]).put (J 25)<|.bool fl)<|.code (Yp ofC [1,1,1,1,1,1,1,0,1,0,0,1]):: .inLoop bodyC:: .inBlock 0::k) [] w->
   LS xP c Post (e::es) (b.at a<|.code bodyC:: .inLoop bodyC:: .inBlock 0::k) [] w:=λ{es e v fl s st a w} H F f hk=>by
  let⟨T0,w0,A⟩:=f.vj;have a1:=A.2.2.2.1;rw[show(Item.code bodyC)=.code (.seq (.region 9 ops9 xw)<|Yp ofC [1,1,1,1,1,1,1,0,1,0,0,1])by rfl];refine LS.cr<|LS.region ?_;rw[Z7J,show List.range 2=[0,1]from rfl];refine LS.tg (i:=0) o1 (by simp[Region.wanted,o2]) ?_ ?_;obtain⟨v,rfl⟩|rfl:=F;exact⟨t,T,d,_,inf,zF,o4,by rw[C];rfl,by rw[C];exact Act.aj a 23 _ f.ch,o6,o7,o8,Z1⟩;exact⟨t,T,d,_,inf,zF,o4,by rw[C];rfl,by rw[C];exact Act.aj a 23 _ f.ch,o6,o7,o8,Z1⟩;rw[o3,H];refine LS.value (i:=1) p1 (by simp[Region.wanted,p2]) (ext _ w v fl (RT Z0)) ?_;simp_all[LS.gd]
 intro p;induction p with
 |nil=>
  intro st r hn n s a w f;refine enter (v:=zF) (fl:=xw) rfl Z1 f ?_;obtain⟨a2,s2,T0,w0,rfl,A,x,W,Y,Z,h8,u,q⟩:=f.put (b:=xw) K;refine LS.wp (qp Oy A<|Z8T (N:=λ_=>False) (R:=λ_=>False) (X:=λid g=>id=0/\g=s2) q ⟨rfl,rfl⟩) λe S w' j=> ?_;cases e with
  |normal=>let⟨_,_,_,h,_⟩:=j;grind
  |exit id=>
   obtain⟨g,Q,hx,⟨rfl,rfl⟩,l⟩:=j;have D:Q=D5:=by simpa using hx
   subst D;refine⟨k,rfl,?_⟩;grind
  |ret=>let⟨_,_,_,h,_⟩:=j;grind
  |_=>exact j.elim
 |cons y p ih=>
  intro st r hn n s a w f;simp[ZiW]at hn;refine enter (v:=y.2) (fl:=xk) rfl Z1 f ?_;obtain⟨a2,s2,T0,w0,rfl,A,x,W,Y,Z,h8,u,q⟩:=f.put (b:=xk)<|r y Z1;refine LS.wp (qp Oy A.base<|Z8U (X:=λ_ _=>False) (R:=λ_=>False) (N:=λg=>get g 6=.v _/\get g 7=.m [Ye vi (st.put y.1).nm]/\get g 8=.m [Ye vu (st.put y.1).tm]/\get g 1=.m hc) Y Z h8 u q Z0 λg M O P L _ _=>⟨M,O,P,L.trans W⟩) λe S w' j=> ?_;cases e with
  |normal=>
   let⟨g,Q,D,⟨M,O,P,L⟩,l⟩:=j;cases D;refine LS.inLoop<|ih _ (λz K=>r z<|by simp[K]) ?_ n g S w' ⟨⟨_,_,l.fg (R:=D6) Z2⟩,f.same.trans l.2.2.1.same,?_,L,M,O,P⟩;grind [Vw.put];rw[l.2.2.1.fix 23 Z1];exact x
  |exit id=>let⟨_,_,_,h,_⟩:=j;grind
  |ret=>let⟨_,_,_,h,_⟩:=j;grind
  |_=>exact j.elim
def Es(b:Zg)(D:World->Nat->Prop)(r:V)(fr:Zg)(cs:Z7)(w:Z3):Prop:=
 cs=[]/\∃(a:Act) (d:Zo),fr= {b.at a d with mode:=.returning}/\a.defers=[]/\∃v,(results Tryz.f23 a.tmps).run xP w=.ok v w/\Rd w (D w) r v
def Eh{code S st o B G Kf s a w w0 T0 N c f es}{b:Zg}{k}(hc:comp (vf xP) code S=J (st,⟨J o,[],[]⟩))(t:RelS Kf [4,23] T0 cV B G w0 82 s a w S)
  (u:Yu xP st s N (λ_ _=>False)<|λ_=>False) (r:∀l g n,N l->RelS Kf [4,23] T0 cV B G w0 82 l g n o->LS xP c f es (b.at g k) [] n):=
 LS.wp (qp hc t u) λe g n d=>by
  cases e with
  |normal=>let⟨l,x,q,p,j⟩:=d;cases q;exact r _ _ _ p j
  |exit id=>let⟨_,_,_,h,_⟩:=d;grind
  |ret=>let⟨_,_,_,h,_⟩:=d;grind
  |_=>exact d.elim
def Z7F:∃o,ops8[0]?=J o/\o.guard=U/\o.dst=J 23/\o.op=.move (.tmp 4):=⟨_,rfl,rfl,rfl,rfl⟩
def Z7G:ops8.size=1:=rfl
def Z7t{B:Nat}{G:Z4}{c:Nat}{b:Zg}{s:St}{a:Act}{w w0:Z3}{T0:Za}{W Y Z y sc x5 x6 x7 x8:V}{d:Z9}{fs:List (Fo×Value)}{fin:Vw}(O:RelS G [4,23] T0 cV B G w0 82 s a w LN)(L:a.tmps[4]?=J (.chan<|J c))(F:get s 1=.m [W,Y,Z,y,sc,x5,x6,x7,x8,.sl<|d.map vu])
  (M:∀y∈fs,Rd w G (Xj y.1) y.2) (hn:I fs<=4000000) (u:(fs.map (·.1)).foldl Vw.put ⟨[],[],[]⟩=fin) (hs:fin.sm d):
  LS xP c (Es b (λw' x=>G x\/(B<=x/\x<xz (xj w')))<|Vh<|fin.gr d) (fs.map (λy=>.recv y.2)++[.closed zF]) (b.at a [.code<|Yp ofC [1,1,1,1]]) [] w:=by
 rw[Z9s];refine LS.cr (Eh r5c O.base (N:=λj=>get j 6=.v (.sl [])/\get j 1=get s 1) (by simp[r5,YX]) λs1 a1 w1 ⟨q6,q1⟩ l=> ?_);refine LS.cr (Eh r6c l.base (N:=λj=>get j 7=.m [Ye vi []]/\get j 6=.v (.sl [])/\get j 1=get s 1) (by simp[r6,YX,q6,q1];rfl) λs2 a2 w2 ⟨t7,t6,t1⟩ n=> ?_);refine LS.cr (Eh r7c n.base (N:=λj=>get j 8=.m [Ye vu []]/\get j 7=.m [Ye vi []]/\get j 6=.v (.sl [])/\get j 1=get s 1) (by simp[r7,YX,t7,t6,t1];rfl) λs3 C w3 ⟨u8,u7,u6,u1⟩ k=> ?_);have q:C.tmps[4]?=J (.chan<|J c):=by
  rw[k.2.2.1.fix 4 Z1,n.2.2.1.fix 4 Z1,l.2.2.1.fix 4 Z1];exact L
 have p:Same G w w3:=(l.2.2.1.same.trans n.2.2.1.same).trans k.2.2.1.same;refine LS.cr<|LS.cr ?_;rw[Z8R];refine LS.region ?_;rw[Z7G,show List.range 1=[0]from rfl];obtain⟨o,o1,o2,o3,o4⟩:=Z7F;have a0:C.eval (.tmp 4)=.chan (J c):=Act.aj C 4 _ q;refine LS.value (v:=.chan<|J c) (w':=w3) o1 (by simp[Region.wanted,o2]) (by simp_all[execOp])<|LS.gd ?_;rw[o3];have Q:=k.set (t:=23) (v:=.chan<|J c) rfl;have a4:C.tmps.size=82:=k.2.2.2.1;refine LS.block<|LS.br (.one step_loop) ?_;refine Z98 (hc:=[W,Y,Z,y,sc,x5,x6,x7,x8,.sl<|d.map vu]) fin (wS:=w) (B:=B) (G:=G) ?_ ?_ fs ⟨[],[],[]⟩ M ZgH u s3 _ w3 ⟨⟨_,_,Q.fg (R:=D6) Z2⟩,p,RT Z0,u1.trans F,u6,u7,u8⟩;refine .agg _ _ rfl Z1 λi x g=> ?_
 match i,g with
 |0,g=>cases g;exact .int _ _
 |1,g=>cases g;exact .int _ _
 |2,g=>cases g;exact .int _ _
 |3,g=>cases g;exact .bool _
 |4,g=>cases g;exact .int _ _
 |5,g=>cases g;exact .int _ _
 |6,g=>cases g;exact .nil _ _<|ZiZ _
 intro s5 a5 w5 T5 a6 S v1 v6 v7 v8;refine LS.wp (qp rCc ((S.fg (R:=Ox) Z2).base)<|Z8S (N:=λ_=>False) (X:=λ_ _=>False) (R:=λj=>Wr j [(2,.ag 2),(3,.v)]=J (Vh<|fin.gr d)) hs v1 v6 v7 v8 λj h=>h) λe a' w' H=> ?_;cases e with
 |normal=>obtain⟨_,_,_,h,_⟩:=H;grind
 |exit id=>obtain⟨_,_,_,h,_⟩:=H;grind
 |ret=>
  obtain⟨j,S',K,hR,P⟩:=H;have K:S'=D3:=by simpa using K
  subst K;obtain⟨⟨h,k1,k2⟩,k3,k4,k5,k6⟩:=P;intro A
  obtain⟨v,hv,T⟩:=LU (c:=cV) (f:=Tryz.f23) (D:=λx=>G x\/(B<=x/\x<xz (xj w'))) k1 k3 (λx z=>by
   obtain F|F:=k1.ok.co x z;grind;exact .inr ⟨F,k1.ok.bm x z⟩) (λr O=>⟨ZhV.1 (Z2:(Tryz.f23.results.toList.all<|Rm xP D3)=xk) r O,λi x z=>.inr ⟨(k1.ok.aq _ _ x z).1,(k1.ok.aq _ _ x z).2.1⟩⟩) (x:=Vh<|fin.gr d) (by rw[<-hR];rfl)
  exact LS.cz ⟨rfl,a',A,rfl,k6,v,hv,T⟩
 |_=>exact H.elim
end
section
def Z3p:∃o a,clOps[1]?=J o/\o.guard=U/\o.dst=U/\o.op=.call ⟨.builtin .close, #[.tmp 70],a⟩:=⟨_,_,rfl,rfl,rfl,rfl⟩
section
variable {b:Zg}{a:Act}{c:Nat}{w:Z3}
def Z3r{cs:Z7}(t:b.fn=44)(x:b.kind≠.early)(q:a.tmps[70]?=J (.chan<|J c)){s r:Nat}{f:Bool}(hc:w.heap[c]?=J (.chan 0 #[] xw s r f)):
  stepG Tryz.prog xw (G (b.at a [.inRegion clOps [1]]) cs) w=.go (G (b.at a [.inRegion clOps []]) cs) (WN w c<|.chan 0 #[] xk s r f) #[⟨.obj c,xw,xk⟩,⟨.obj c,xk,xk⟩]:=by
 obtain⟨o,d,l,g,n,p⟩:=Z3p;have h:a.eval (.tmp 70)=.chan (J c):=Act.aj a 70 _ q;have j:execOp a.eval o=(do pure (.value<|<-Builtin.close_ d o.type #[.chan<|J c]):Sem Next):=by
  unfold execOp;simp only[p];simp[resolve,builtin,h];rfl
 have y:(execOp a.eval o).run Tryz.prog w=.ok (.value<|.tuple #[]) (WN w c<|.chan 0 #[] xk s r f):=by
  rw[j];simp only[Ziu,run_close_open d o.type hc,Zis];rfl
 have u:(execOp a.eval o).events Tryz.prog w #[]=#[⟨.obj c,xw,xk⟩,⟨.obj c,xk,xk⟩]:=by
  rw[j];have g:(Builtin.close_ d o.type #[.chan<|J c]).runT Tryz.prog w #[]=(.ok (.tuple #[])<|WN w c<|.chan 0 #[] xk s r f, #[⟨.obj c,xw,xk⟩,⟨.obj c,xk,xk⟩]):=by
   refine Zkn ?_<|events_close_open d o.type hc;rw[ZjP];exact run_close_open d o.type hc
  show((Sem.bind _ _).runT Tryz.prog w #[]).2=_;rw[ZjT,g];rfl
 rw[stepG_value l (by simp[Region.wanted,g]) x y];have k:a.put o.dst (.tuple #[])=a:=by rw[n];rfl
 rw[k];unfold listed;rw[u,seen_eq (by rw[t,Tryz.func44];rfl) Z1]
noncomputable def bornF:Frame:= {(default:Zg)with fn:=Tryz.prog.funcs.size,defers:=[],mode:=.panicking [goexitEntry]}
def Zag(d:b= {base 44 with kind:=.deferred})(f:a.defers=[]):QuitsIn Tryz.prog 4<|G (b.at a [.inRegion clOps []]) [bornF]:=by
 subst d;refine .ctl (g':=G (({base 44 with kind:=.deferred}:Frame).at a []) [bornF]) rfl (λw=>Zhw) ?_;refine .ctl (g':=G {(({base 44 with kind:=.deferred}:Frame).at a [])with mode:=.returning} [bornF]) rfl (λw=>Zhw) ?_;refine .ctl (g':=G bornF []) rfl (λw=> ?_) ?_;have g:=Tryz.func44;simp[G,stepG,unwind,Frame.at,f,base,g,results,Tryz.results44,doReturn,bornF,goexitEntry];rfl;refine .ctl (g':= {(G bornF [])with status:=.finished}) rfl (λw=> ?_) rfl;rfl
end
def qk(l:Z9):NoM<|.sl<|l.map vu:=.sl _ λc a=>by
 have:flat (l.map vu)=l.map vu:=Um λx d=>Zhe;rw[this]at a;obtain⟨y,_,rfl⟩:=Zi4.1 a;exact .int _ _
def Z3W{n:Nat}{v:Zb}(h:FixV n v)(f m:Nat):FixV n<|RC v f m:=by
 intro ρ d;have a:=h ρ d;unfold RC;split;rename_i b o q k c;simp only[Zt,Zic,ZV,Value.slice.injEq,ZhF,Addr.mk.injEq,and_true]at a;grind [Zt,ZV];exact a
def GW{n:Nat}{h:Hp}{x:Z5}{p:Nat}(hx:FixV n<|x p)(o:Ob):FixV n<|UK h x p o:=by
 intro ρ a;have:=Z3W hx (o.ab+1).toNat o.size.toNat ρ a;simp_all[UK,WJ,Wq,Uw]
def AZ{h:Hp}{x:Z5}{v:Zb}:∀ {n p:Nat},v∈Ww h x n p->∃q o,q<p+n/\v=UK h x q o
 |0,p,a=>by simp[Ww]at a
 |n+1,p,a=>by
  simp only[Ww,Zib,Zi4]at a;obtain⟨o,_,rfl⟩|a:=a;exact⟨p,o,Z0,rfl⟩;obtain⟨q,o,f,d⟩:=AZ a;exact⟨q,o,Z0,d⟩
def bD:Frame:= {base 44 with kind:=.deferred}
def AA(args:Za):Frame.enter Tryz.prog 44 args .deferred=bD.at {tmps:=args++Array.replicate (71-args.size) xy,defers:=[]} [.code seC]:=by
 simp[Frame.enter,Frame.at,Tryz.func44,jr,bD,base,Tryz.ntmps44]
def Pm:YU xP xw seC=xk:=Z2
def Z2W:xP.funcs[Tryz.prog.funcs.size]?=U:=by
 grind [Array.getElem?_eq_none,xP,V5]
def Z3o{c n0:Nat}{h:Hp}{x:Z5}{K:Z4}{w:Z3}(hh:h.ok)(a1:xz (xj w)<=n0)(hc:c<n0)(hK:∀b,K b->∃cs e fr,w.heap[b]?=J (.cells cs e fr))(R:∀b o,w.heap[b]?=J o->K b->Kc n0 o)
  (hx:∀j,j<5->FixV n0 (x j)) (hr:∀j,j<5->Rd w K (.sl<|(Zu h j).map vu) (x j))
  (a2:∀p,p<4->I (obP h p)<=1000000/\∀o∈obP h p,0<=o.ab/\0<=o.size/\o.ab+1+o.size<=I (Zu h p)):
  Play Tryz.prog xw c K (UX Tryz.prog c) ((Ww h x 4 0).map .send) (λ_=>False) (born Tryz.prog {target:=.fn (.func 44) #[],args:=#[ZA h x,.chan<|J c]}) w:=by
 have a6:∀b,K b->b<xz (xj w):=λb k=>ZgH;have C:∀w1:Z3,stepG Tryz.prog xw (born Tryz.prog {target:=.fn (.func 44) #[],args:=#[ZA h x,.chan<|J c]}) w1=.go (G (Frame.enter Tryz.prog 44 #[ZA h x,.chan<|J c] .deferred) [bornF]) w1 #[]:=λw1=>by
  have hn:¬Tryz.f44.name= "runtime.NumGoroutine" :=by decide+kernel
  have k:¬Tryz.f44.body=U:=by rw[jr];simp
  simp[stepG,born,unwind,callDeferred,invoke,callFunc,G,bornF,hn,k];rfl
 refine .step (λw1 H=>⟨_,_,_,_,C w1,ZhL _,ZhL _,rfl,rfl,λ_ _ _=>rfl,λe Y=>by simp at Y⟩) λw1 g' w' a4 H e=> ?_;have e:=(C w1).symm.trans e;injection e with M N e3;subst M N;have B:(Vj (λ_=>False) w1 w1:Z4)=λ_=>False:=funext λb=>propext ⟨λk=>by obtain k|k:=k;exact k;omega,λk=>k.elim⟩;rw[B];refine Play.gg ?_ H;let X:Cx:=Sc Tryz.prog xP n0 K (λ_=>False);have S:X.P=Tryz.prog:=QS.P n0 K (λ_=>False);have n:∀v∈ #[ZA h x,.chan<|J c],FixV n0 v:=λv hv=>by
  have:v=ZA h x\/v=.chan (J c):=by simpa using hv
  obtain rfl|rfl:=this;intro ρ l;unfold ZA;rw[WJ];simp[Wq,Uw,hx 0 Z0 ρ l,hx 1 Z0 ρ l,hx 2 Z0 ρ l,hx 3 Z0 ρ l,hx 4 Z0 ρ l];intro ρ l;simp[Zt,l c hc]
 have z:∀ρ,Zw ρ bornF=bornF:=λρ=>by
  simp[Zw,bornF,Wp,Rs,goexitEntry,SG];exact⟨by show Array.map (Zt ρ) #[]=#[];simp,rfl,rfl⟩
 have hw:=Ed X (QS.ok n0 K<|λ_=>False) (c:=c) (es:=(Ww h x 4 0).map .send) (fr:=Frame.enter Tryz.prog 44 #[ZA h x,.chan<|J c] .deferred) (cs:=[bornF]) (ds:=[]) (main:=xw) (wc:=w)
  (λe Y=>by
   obtain⟨v,hv,rfl⟩:=Zi4.1 Y;obtain⟨q,o,hq,rfl⟩:=AZ hv;exact⟨GW (hx q Z0) o,hc⟩)
  (λρ=>by
   rw[AA];refine⟨⟨λi hi=> ?_,λd A=>by simp[Frame.at]at A,.inr rfl,.inl ⟨_,seC,Z1D,Tryz.func44,jr,Pm⟩⟩,λf Z=> ?_,rfl⟩;have:i=.code seC:=by simpa[Frame.at]using hi
   subst this;exact Pm;have:f=bornF:=by simpa using Z
   subst this;exact⟨λi hi=>(by cases hi),λd A=>(by cases A),.inl rfl,.inr<|.inl ⟨Z2W,Zkc<|ZhL _⟩⟩)
  (λf Z=>by
   have:f=Frame.enter Tryz.prog 44 #[ZA h x,.chan<|J c] .deferred\/f=bornF:=by simpa using Z
   obtain rfl|rfl:=this;rw[AA];intro ρ l;have M:(#[ZA h x,.chan<|J c]++Array.replicate (71- (#[ZA h x,.chan<|J c]:Array Value).size) xy).map (Zt ρ)=#[ZA h x,.chan<|J c]++Array.replicate (71- (#[ZA h x,.chan<|J c]:Array Value).size) xy:=by
    rw[ZjK,Rc n ρ l];simp[SG]
   simp_all[Zw,Frame.at,YE,Wp,bD,base];exactλρ _=>z ρ)
  (λb o ho y=>by
   obtain y|y:=y;exact y.elim;exact R b o ho y)
  (Post:=λwl=>Er c bD [bornF])
  (λt=>by
   rw[AA]
   exact Zaf bD [bornF] (X.ci w t) h hh x c K (λb k=>by grind [Cx.ci,Sc,Nat.lt_of_lt_of_le])
    (λj hj=>OF (X:=X) (λb h=>h) (λb c e fr B hc=>B) a1 (hr j hj)<|qk _) a2)
 have hw:Play Tryz.prog xw c K _ ((Ww h x 4 0).map .send) (λ_=>False) (G (Frame.enter Tryz.prog 44 #[ZA h x,.chan<|J c] .deferred)<|[bornF]++[]) w:=S▸hw;refine hw.mono λO g w' ⟨ρ,t,a5,a3,a7,fc,cc,B,hid,⟨W,a,a0,Q,A⟩,L⟩=> ?_;subst B W a0;have D:fc=Zw ρ (bD.at a [.inRegion clOps [1]]):=L.be;have F:cc=[bornF].map (Zw ρ)++[]:=L.under;have M:fc=bD.at {tmps:=a.tmps.map<|Zt ρ,defers:=[]} [.inRegion clOps [1]]:=by
  rw[D];simp[Zw,Frame.at,A,Wp,YE,bD,base]
 have N:cc=[bornF]:=by rw[F];simp[z]
 rw[M,N];have u:(a.tmps.map<|Zt ρ)[70]?=J (.chan<|J c):=by
  rw[Zik,Q];simp[Zt,hid c hc]
 refine⟨rfl,?_,_,4,λs r tm T=>Z3r rfl (by simp[bD]) u T,Zag rfl rfl⟩;rfl
end
inductive NoZ:V->Prop where
 |int (k:IntKind) (n:Int):NoZ<|.int k n
 |bool (b:Bool):NoZ<|.bool b
 |sl (l:Zr):(∀y∈l,y.cells≠[])->(∀c∈flat l,NoZ c)->NoZ (.sl l)
 |agg (l:Zr):(∀c∈l,NoZ c)->NoZ (.agg l)
 |al (l:Zr):(∀c∈l,NoZ c)->NoZ (.al l)
def NoZ.m{x:V}(h:NoZ x):NoM x:=by
 induction h with
 |int k n=>exact .int k n
 |bool b=>exact .bool b
 |sl l _ _ a=>exact .sl l a
 |agg l _ a=>exact .agg l a
 |al l _ a=>exact .al l a
def Z8Z{w:Z3}{D:Z4}{x:V}{v:Zb}(h:Rd w D x v)(d:NoZ x):Rd w (λb=>D b/\b<xz (xj w)) x v:=by
 induction h with
 |int k n=>exact .int k n
 |bool b=>exact .bool b
 |nil a cap A=>exact .nil a cap A
 |sl l b o cap k vs g p z r t C j=>
  cases d with
  |sl _ B d=>
   obtain _|⟨y,l⟩:=l;exact .nil _ cap p;have F:0<k:=by
    rw[<-(r y Z1).1];exact Zku.2<|B y Z1
   have q:=Ap<|t 0 ZgI;exact .sl _ b o cap k vs g p ⟨z,q⟩ r t λi c f=>j i c f<|d c<|AN f
 |agg u vs g p _ j=>
  cases d with
  |agg _ d=>exact .agg u vs g p λi c f=>j i c f<|d c<|ZhR f
 |al l vs g _ j=>
  cases d with
  |al _ d=>exact .al l vs g λi c f=>j i c f<|d c<|ZhR f
 |_=>cases d
def Z92{w:Z3}{D:Z4}{x:V}{v:Zb}(h:Rd w D x v)(d:NoZ x):Rd w (λb=>D b/\∃q e r,w.heap[b]?=J (.cells q e r)) x v:=by
 induction h with
 |int k n=>exact .int k n
 |bool b=>exact .bool b
 |nil a cap B=>exact .nil a cap B
 |sl l b o cap k vs g p z t u F j=>
  cases d with
  |sl _ C d=>
   obtain _|⟨y,l⟩:=l;exact .nil _ cap p;have G:0<k:=by
    rw[<-(t y Z1).1];exact Zku.2<|C y Z1
   obtain⟨_,c,e,r,A,_⟩:=Ku<|u 0 ZgI;exact .sl _ b o cap k vs g p ⟨z,c,e,r,A⟩ t u λi c f=>j i c f<|d c<|AN f
 |agg q vs g p _ j=>
  cases d with
  |agg _ d=>exact .agg q vs g p λi c f=>j i c f<|d c<|ZhR f
 |al l vs g _ j=>
  cases d with
  |al _ d=>exact .al l vs g λi c f=>j i c f<|d c<|ZhR f
 |_=>cases d
def My(l:Z9):NoZ<|.sl<|l.map vu:=.sl _ (λy f=>by obtain⟨z,_,rfl⟩:=Zi4.1 f;simp) λc a=>by
 rw[Um λx d=>Zhe]at a;obtain⟨y,_,rfl⟩:=Zi4.1 a;exact .int _ _
def Mx(l:Z9):NoZ<|.sl<|l.map vi:=.sl _ (λy f=>by obtain⟨z,_,rfl⟩:=Zi4.1 f;simp) λc a=>by
 rw[Um λx d=>Zhe]at a;obtain⟨y,_,rfl⟩:=Zi4.1 a;exact .int _ _
def Mw(g:Gr):NoZ<|Yx g:=.agg _ λc a=>by
 have:c=.sl (g.nodes.map Yj)\/c=.sl (g.E.map vi):=Zhu;obtain rfl|rfl:=this;refine .sl _ (λy d=>by obtain⟨z,_,rfl⟩:=Zi4.1 d;simp) λc a=> ?_;obtain⟨y,d,a⟩:=Zks.1 a;obtain⟨n,_,rfl⟩:=Zi4.1 d;have:c=.sl (n.Y.map vi)\/c=.sl (n.data.map vu):=Zhu;obtain rfl|rfl:=this;exact Mx _;exact My _;exact Mx _
def Mv(g:Gr):NoZ<|Vh g:=by
 unfold Vh;split;all_goals
  refine .al _ λc a=> ?_;simp only[Zi6,Zjf,ZkH]at a;obtain rfl|rfl:=a;exact Mw _;exact .int _ _
def Ld(h:Hp):NoM<|ZE h:=.agg _ λc a=>by
 simp only[Zi6,Zjf,ZkH]at a;obtain rfl|rfl|rfl|rfl|rfl|rfl|rfl|rfl|rfl|rfl:=a;all_goals first|exact .int _ _|exact .bool _|exact qk _
noncomputable def ops4:Array Oper:=Lp<|Yp ofC [1,1,1,0]
def Z7E:(ops4.all λo=>Wc xP xw o.op)=xk:=Z2
def Z9t:YU xP xw (Yp ofC [1,1,1,1])=xk:=Z2
def Z7s:xP.funcs[23]?=J (OI Tryz.f23):=by
 have:=Tryz.func23;simp only[xP,V5,ZkQ,this,Zic];rfl
def M6{X:Cx}{w:Z3}{t:Nat->Question->Nat}{b:Nat}{cs:Za}{T:Zd}(h:w.heap[b]?=J (.cells cs T (0,0)))(a:X.O b)(d:b<X.n0):(X.ci w t).heap[b]?=J (.cells cs T (0,0)):=by
 rw[BP,ZhS d,h];unfold Cx.il;dsimp only;rw[ZhS a,ZhS ⟨trivial,λc e g f=>ZgH⟩]
def Z9p{B g k:Nat}{a:Act}{A C:Zd}{K:Z4}{h:Hp}{x:Z5}{l:Z3}
  (z:a.tmps.size=82) (Q:a.defers=[]) (T:a.tmps[1]?=J (.pointer<|J ⟨g,0,U⟩)) (W:a.tmps[2]?=J (.pointer<|J ⟨k,0,U⟩)) (X:a.tmps[3]?=J (.int .i64 0))
  (n:l.heap[g]?=J (.cells #[.int .u64 h.base,.int .i64 h.cap,.int .i64 h.to,.bool h.M,.int .i64 h.Z,x 0,x 1,x 2,x 3,x 4] A (0,0))) (o:l.heap[k]?=J (.cells #[.slice U 0 0,.slice U 0 0] C (0,0)))
  (N:B<=g) (O:B<=k) (M:g≠k) (k1:¬K g) (k2:¬K k) (D:∀b,K b->b<xz (xj l)) (r:∀j,j<5->Rd l K (.sl<|(Zu h j).map vu) (x j)):
  RelS K [4,23] a.tmps cV B K l 82 [.no,.m [vu h.base,vi h.cap,vi h.to,.bool h.M,vi h.Z,.sl<|h.H.map vu,.sl<|h.aa.map vu,.sl<|h.ah.map vu,.sl<|h.ak.map vu,.sl<|h.E.map vu],.m [.sl [],.sl []],.v<|vi 0] a l LN:=by
 have l1:=(ZhN.1 n).1;have l2:=(ZhN.1 o).1;have Z:cV.ix 1=1:=ZgK;have i2:cV.ix 2=2:=ZgK;have i3:cV.ix 3=3:=ZgK;refine⟨⟨{F:=K,bl:=λt i=>if t=1/\i=0 then J g else if t=2/\i=0 then J k else U,K:=K},⟨⟨Z0,D,λb f=>.inl f,λb f=>f,λt i b f=> ?_,λt i u j b f P=> ?_,D,λt i b f=> ?_,λb f=>.inl f⟩,λt _ S=> ?_,λt R=> ?_⟩,rfl⟩,λp Y=> ?_,.refl _ _,z,Q⟩;grind;grind;grind;rw[Yw]at S⊢;by_cases G:t=1;subst G;refine⟨_,T,g,_,A,rfl,rfl,n,rfl,λi y d=> ?_⟩;have q:i<10:=(ZhH.1 d).1
 match i,q with
 |0,_=>cases d;exact⟨_,Zhw,rfl,.int _ _⟩
 |1,_=>cases d;exact⟨_,Zhw,rfl,.int _ _⟩
 |2,_=>cases d;exact⟨_,Zhw,rfl,.int _ _⟩
 |3,_=>cases d;exact⟨_,Zhw,rfl,.bool _⟩
 |4,_=>cases d;exact⟨_,Zhw,rfl,.int _ _⟩
 |5,_=>cases d;exact⟨_,Zhw,rfl,r 0 Z0⟩
 |6,_=>cases d;exact⟨_,Zhw,rfl,r 1 Z0⟩
 |7,_=>cases d;exact⟨_,Zhw,rfl,r 2 Z0⟩
 |8,_=>cases d;exact⟨_,Zhw,rfl,r 3 Z0⟩
 |9,_=>cases d;exact⟨_,Zhw,rfl,r 4 Z0⟩
 |i+10,h=>omega
 by_cases H:t=2;subst H;refine⟨_,W,k,_,C,rfl,rfl,o,rfl,λi y d=> ?_⟩;have w:i<2:=(ZhH.1 d).1
 match i,w with
 |0,_=>cases d;exact⟨_,Zhw,rfl,.nil _ _<|ZiZ _⟩
 |1,_=>cases d;exact⟨_,Zhw,rfl,.nil _ _<|ZiZ _⟩
 |i+2,h=>omega
 by_cases L:t=3;subst L;exact⟨_,X,_,Zhw,.int _ _⟩;simp_all[LN,SS.at,Zju,TK.bj];refine absurd ?_ R;rw[Yw];split<;>exact VX _;grind [LN,SS.at]
def Z0Z(cs:Z7)(r:V)(D:Z4)(g:Zi)(w:Z3):Prop:=
 ∃a,g=G a cs/\a.fn=23/\a.mode=.returning/\a.defers=[]/\a.kind=.normal/\∀d,∃v,(results Tryz.f23 a.tmps).run Tryz.prog (w.at d)=.ok v (w.at d)/\Rd (w.at d) (λb=>D b/\b<xz (xj w)) r v
def Z6o{c n0 B C D:Nat}{a:Act}{T1 T2:Zd}{K:Z4}{h:Hp}{x:Z5}{w:Z3}{cs:Z7}{fs:List (Fo×Value)}{fin:Vw}(hh:h.ok)
  (e3:a.tmps.size=82) (hd:a.defers=[]) (t1:a.tmps[1]?=J (.pointer<|J ⟨C,0,U⟩)) (t2:a.tmps[2]?=J (.pointer<|J ⟨D,0,U⟩)) (t3:a.tmps[3]?=J (.int .i64 0)) (t4:a.tmps[4]?=J (.chan<|J c))
  (S:w.heap[C]?=J (.cells #[.int .u64 h.base,.int .i64 h.cap,.int .i64 h.to,.bool h.M,.int .i64 h.Z,x 0,x 1,x 2,x 3,x 4] T1 (0,0))) (T:w.heap[D]?=J (.cells #[.slice U 0 0,.slice U 0 0] T2 (0,0)))
  (e9:B<=xz (xj w)) (d0:B<=C) (d5:B<=D) (c1:C≠D) (k1:¬K C) (k2:¬K D) (b4:xz (xj w)<=n0) (hc:c<n0)
  (hK:∀b,K b->∃cs e fr,w.heap[b]?=J (.cells cs e fr)) (a2:∀(b:Nat) (cs:Za) (e:Zd) (fr:Nat×Nat),w.heap[b]?=J (Obj.cells cs e fr)->Kc n0 (Obj.cells cs e fr)) (e0:∀v∈a.tmps,FixV n0 v) (hx:∀j,j<5->FixV n0 (x j))
  (hr:∀j,j<5->Rd w K (.sl<|(Zu h j).map vu) (x j)) (a5:∀y∈fs,Rd w K (Xj y.1) y.2/\NoM (Xj y.1)) (d9:fs.map (·.2)=Ww h x 4 0) (hn:I fs<=4000000) (b3:(fs.map (·.1)).foldl Vw.put ⟨[],[],[]⟩=fin) (hs:fin.sm h.E):
  Play Tryz.prog xk c K (λ_=>Z0Z cs (Vh<|fin.gr h.E)<|λb=>K b\/B<=b) ((Ww h x 4 0).map .recv++[.closed zF]) (λb=>b=C\/b=D) (G ((base 23).at a [.inRegion ops4 [],.code<|Yp ofC [1,1,1,1]]) cs) w:=by
 have f0:∀b,K b->b<xz (xj w):=λb H=>ZgH;have l1:=(ZhN.1 S).1;have l2:=(ZhN.1 T).1;let X:Cx:=Sc Tryz.prog xP n0 K (λb=>b=C\/b=D);have R:∀ρ,(X.at ρ).P=Tryz.prog:=λρ=>QS.same.symm;have f2:∀t,xz (xj<|X.ci w t)=n0:=λt=>by simp[Cx.ci,X,Sc]
 have d8:(Ww h x 4 0).map Ev.recv=fs.map λy=>.recv y.2:=by rw[<-d9,Zkl];rfl
 have a8:∀b,(b=C\/b=D)->¬K b:=λb H=>ZgH
 have hw:=Ed X (QS.ok n0 K<|λb=>b=C\/b=D) (c:=c) (es:=(Ww h x 4 0).map .recv++[.closed zF]) (fr:=(base 23).at a [.inRegion ops4 [],.code<|Yp ofC [1,1,1,1]]) (cs:=[]) (ds:=cs) (main:=xk) (wc:=w)
  (λe L=>by
   obtain L|L:=Zib.1 L;obtain⟨v,hv,rfl⟩:=Zi4.1 L;obtain⟨q,o,hq,rfl⟩:=AZ hv;exact⟨GW (hx q Z0) o,hc⟩;have:e=.closed zF:=Zhs;subst this;exact⟨λρ _=>by simp_all[zF,WJ,Zt],hc⟩)
  (λρ=>by
   refine⟨⟨λi p=> ?_,λd a4=> ?_,.inl rfl,.inr<|.inr ⟨_,_,Z7s,Tryz.func23,rfl⟩⟩,λf hf=>by simp at hf,rfl⟩;have:i=.inRegion ops4 []\/i=.code (Yp ofC [1,1,1,1]):=by simpa[Frame.at]using p
   obtain rfl|rfl:=this;exact Z7E;exact Z9t;rw[show((base 23).at a [.inRegion ops4 [],.code<|Yp ofC [1,1,1,1]]).defers=a.defers from rfl,hd]at a4;simp at a4)
  (λf hf=>by
   have:f=(base 23).at a [.inRegion ops4 [],.code<|Yp ofC [1,1,1,1]]:=by simpa using hf
   subst this;intro ρ hρ;simp only[Zw,Frame.at,Rc e0 ρ hρ,hd];rfl)
  (λb o M hO=>by
   obtain hO|hO:=hO;obtain rfl|rfl:=hO;rw[S]at M;cases M;exact a2 _ _ _ _ S;rw[T]at M;cases M;exact a2 _ _ _ _ T;obtain⟨cs,e,fr,L⟩:=hK b hO;rw[M]at L;cases L;exact a2 _ _ _ _ M)
  (Post:=λwl=>Es (base 23) (λA b=>K b\/(B<=b/\b<xz (xj A)))<|Vh<|fin.gr h.E)
  (λt=>by
   rw[d8];have b5:∀ {y:V} {v:Zb},Rd w K y v->NoM y->Rd (X.ci w t) K y v:=λ{y v} h1 h2=>by
    clear a5;induction h1 with
    |int k n=>exact .int k n
    |bool b=>exact .bool b
    |str s=>exact .str s
    |nil a cap h=>exact .nil a cap h
    |sl l b o cap k vs q1 q2 H hf a3 _ Z=>
     cases h2 with
     |sl _ W=>exact .sl l b o cap k vs q1 q2 H hf (λi p=>yZ (λM=>a8 b M H) (λc e fr _=>H) b4<|a3 i p) λi c p=>Z i c p<|W c<|AN p
    |agg cs vs q1 q2 _ Z=>
     cases h2 with
     |agg _ W=>exact .agg cs vs q1 q2 λi c p=>Z i c p<|W c<|ZhR p
    |al l vs q1 _ Z=>
     cases h2 with
     |al _ W=>exact .al l vs q1 λi c p=>Z i c p<|W c<|ZhR p
    |ptr cs b o vs H q1 a3 _ Z=>
     cases h2 with
     |ptr _ W=>exact .ptr cs b o vs H q1 (λi p=>yZ (λM=>a8 b M H) (λc e fr _=>H) b4<|a3 i p) λi c p=>Z i c p<|W c<|ZhR p
    |fn f=>exact .fn f
    |cn f cs vs q1 _ Z=>
     cases h2 with
     |cn _ _ W=>exact .cn f cs vs q1 λi c p=>Z i c p<|W c<|ZhR p
    |gt=>exact .gt
    |gu=>exact .gu
    |lj=>cases h2
    |mp=>cases h2
   refine LS.gd<|Z7t (G:=K) (B:=B) (Z9p e3 hd t1 t2 t3 (M6 S (.inl rfl) (by show C<n0;omega)) (M6 T (.inr rfl) (by show D<n0;omega)) d0 d5 c1 k1 k2 (λb H=>ZgH) λj hj=>b5 (hr j hj)<|qk _) t4 rfl (λy hy=>b5 (a5 y hy).1 (a5 y hy).2) hn b3 hs)
 have hw:Play Tryz.prog xk c K _ ((Ww h x 4 0).map .recv++[.closed zF]) (λb=>b=C\/b=D) (G ((base 23).at a [.inRegion ops4 [],.code<|Yp ofC [1,1,1,1]])<|[]++cs) w:=(R id)▸hw;refine hw.mono λO g A ⟨ρ,t,e8,e6,a0,fc,cc,hg,hid,⟨d7,N,b9,e1,a4,v,hv,e4⟩,Y⟩=> ?_;subst hg d7 e1;have u:fc=Zw ρ {(base 23).at N b9 with mode:=.returning}:=Y.be;have b6:cc=cs:=Y.under;subst b6;refine⟨fc,rfl,by rw[u];rfl,by rw[u];rfl,by rw[u];show N.defers.map _=_;grind,by rw[u];rfl,λd=> ?_⟩;have b7:(X.at ρ).WR a0<|A.at d:=Fp Y.wr d;have a6:=M0 Tryz.f23<|N.tmps.map<|Zt ρ;have a7:Yc ((results Tryz.f23<|N.tmps.map<|Zt ρ).run Tryz.prog<|A.at d)=A.at d:=a6.world _
 have F:=(Bk (X:=X.at ρ) (V:=[]) Tryz.f23 N.tmps).run a0 (A.at d) #[] b7 (λr hr=>by simp at hr)
  (λj hj=>by
   rw[R ρ]at hj;have e:(Yc<|(results Tryz.f23<|N.tmps.map<|Zt (X.at ρ).ρ).run Tryz.prog<|A.at d).drawn=(A.at d).drawn:=ZiP World.drawn a7;omega)
  (λj hj=>by
   rw[R ρ]at hj;have e:xz (xj<|Yc<|(results Tryz.f23<|N.tmps.map<|Zt (X.at ρ).ρ).run Tryz.prog<|A.at d)=xz (xj<|A.at d):=ZiP (λw=>xz<|xj w) a7;omega)
 have c7:(results Tryz.f23 N.tmps).run (X.at ρ).Q a0=.ok v a0:=hv;rw[c7,R ρ]at F;obtain⟨b,c0,e7,L,d6,f1⟩:=F;have a1:(results Tryz.f23<|N.tmps.map<|Zt ρ).run Tryz.prog (A.at d)=.ok b c0:=by
  have:=ZiP Prod.fst L;rw[ZjP]at this;exact this
 have e5:c0=A.at d:=by
  have:=a7;rw[a1]at this;exact this
 subst e5;have a9:b=Zt ρ v:=d6;refine⟨b,by rw[u];exact a1,?_⟩;rw[a9];refine(Z8Z (OE b7 e4 (Mv _).m)<|Mv _).mono λb' b0=> ?_;obtain⟨⟨z,hz,rfl⟩,e2⟩:=b0;refine⟨?_,e2⟩;by_cases b8:z<n0;have e:(X.at ρ).ρ z=z:=hid z b8;grind;obtain hz|hz:=hz;grind;right;have:=Y.new z (Nat.le_of_not_lt b8) hz.2;omega
def WV(h:Hp)(p:Nat)(o:Ob):Fo:=⟨o,(Y3 (Zv h) ((p:Int)+1) o.ab).1,((Zu h p).drop (o.ab+1).toNat).take o.size.toNat⟩
def XN(h:Hp):Nat->Nat->List Fo
 |0,_=>[]
 |n+1,p=>(obP h p).map (WV h p)++XN h n (p+1)
def TO(h:Hp)(x:Z5):Nat->Nat->List (Fo×Value)
 |0,_=>[]
 |n+1,p=>(obP h p).map (λo=>(WV h p o,UK h x p o))++TO h x n (p+1)
def AY h x:∀n p,(TO h x n p).map (·.1)=XN h n p
 |0,p=>rfl
 |n+1,p=>by simp_all[TO,XN,ZiR,Zkl,AY]
def Hh h x:∀n p,(TO h x n p).map (·.2)=Ww h x n p
 |0,p=>rfl
 |n+1,p=>by simp_all[TO,Ww,ZiR,Zkl,Hh]
def Hg{h x y}:∀ {n p},y∈TO h x n p->∃q o,q<p+n/\o∈obP h q/\y=(WV h q o,UK h x q o)
 |0,p,a=>by simp[TO]at a
 |n+1,p,a=>by
  simp[TO,Zi4]at a;obtain⟨o,f,rfl⟩|a:=a;exact⟨p,o,Z0,f,rfl⟩;let⟨q,o,g,d⟩:=Hg a;exact⟨q,o,Z0,d⟩
def XT(h:Hp):Vw:=(XN h 4 0).foldl Vw.put ⟨[],[],[]⟩
def Jt(h:Hp):V:=if Yk h=xk then Vh ((XT h).gr h.E)else .al [Yx UP,vi 1]
structure OfOk (h:Hp):Prop where
 ob:∀p,p<4->I (obP h p)<=1000000/\∀o∈obP h p,0<=o.ab/\0<=o.size/\o.ab+1+o.size<=I (Zu h p)
 n:I (XN h 4 0)<=4000000
 sm:(XT h).sm h.E
def Z93{w K}{l:Z9}{v}(h:Rd w K (.sl<|l.map vu) v){d n}(q:0<I l)(N:d+n<=I l):Rd w K (.sl<|((l.drop d).take n).map vu)<|RC v d n:=by
 generalize g:l.map vu=L at h;have p:I L=I l:=by rw[<-g,Zia]
 cases h with
 |nil a cap H=>simp_all
 |sl _ b o cap k vs C D r t F u=>
  have M:k=1:=by
   have A:vu (l[0]'q)∈L:=by rw[<-g];exact Zjr Z1
   have:=(t _ A).1;simpa[vu,V.cells]using this.symm
  unfold RC;dsimp only;have z:I (((l.drop d).take n).map vu)=n:=ZgJ;by_cases B:n=0;subst B;simp[List.take_zero,Zj9];exact .nil _ _ Z0;rw[ZhP Z0]
  have:=Rd.sl (w:=w) (G:=K) (((l.drop d).take n).map vu) b (o+d) (cap-d) 1 (λi=>vs<|d+i) Z0 Z0 r ZgH
   ZgH
   (λi c f=>by
    rw[Um λx j=>by obtain⟨y,_,rfl⟩:=Zi4.1 j;rfl,Zi8,Zim]at f;split at f;rw[Zil]at f;exact u _ c (by rw[<-g,Um λx j=>by obtain⟨y,_,rfl⟩:=Zi4.1 j;rfl,Zi8];exact f);cases f)
  simp_all
def Z72 f:NoM<|Xj f:=.agg _ λc a=>by
 simp[ZkH]at a;obtain rfl|rfl|rfl|rfl|rfl|rfl|rfl:=a;all_goals first|exact .int _ _|exact .bool _|exact qk _
def Z4b{w K h x}(d:OfOk h)(r:∀j,j<5->Rd w K (.sl<|(Zu h j).map vu) (x j)):∀y∈TO h x 4 0,Rd w K (Xj y.1) y.2/\NoM (Xj y.1):=by
 intro y g;obtain⟨q,o,p,f,rfl⟩:=Hg g;refine⟨?_,Z72 _⟩;let⟨k,l,n⟩:=(d.ob q Z0).2 o f;refine .agg _ _ rfl Z1 λi c a=> ?_
 match i,a with
 |0,a=>cases a;exact .int _ _
 |1,a=>cases a;exact .int _ _
 |2,a=>cases a;exact .int _ _
 |3,a=>cases a;exact .bool _
 |4,a=>cases a;exact .int _ _
 |5,a=>cases a;exact .int _ _
 |6,a=>cases a;exact Z93 ZgH Z0 Z0
noncomputable def cB:Ctx:= {P:=YY Tryz.prog,ix:=(vf<|YY Tryz.prog).ix,own:=λ_=>xw,fresh,sig:=Dy,tr:=[3],n:=82}
def G5{P}:∀ {c},TJ P c=xk->Sa (Lg.ld<|YY P) c:=by
 intro c;induction c with
 |region id j d=>exactλh o g=>(ZjO.1 h) o g
 |seq x y a f=>intro h;simp[TJ]at h;exact⟨a h.1,f h.2⟩
 |cond c x y a f=>intro h;simp[TJ]at h;exact⟨a h.1,f h.2⟩
 |block id x a=>exact a
 |loop x a=>exact a
 |scope x a=>exact a
 |_=>intro h;first|trivial|cases h
def AW:(YY Tryz.prog).follows .mixedOrders=xk:=Z2
def MD{code:Code}{S:SS}{st:Stm}{fl:Flow}{B:Nat}{G Kf:Z4}{s:St}{a:Act}{w w0:Z3}{T0:Za}{N:St->Prop}{X:Nat->St->Prop}{Rt:St->Prop}(f:TJ Tryz.prog code=xk)(hc:comp (vf<|YY Tryz.prog) code S=J (st,fl))(j:RelS Kf [4,23] T0 cB B G w0 82 s a w S)(k:Yu (YY Tryz.prog) st s N X Rt):
  Tz Tryz.prog code (Post Kf [4,23] T0 cB B G w0 82 fl N X Rt) a w:=
 letI:Lg (vf<|YY Tryz.prog).P:=besI Tryz.prog
 At (fc:=vf<|YY Tryz.prog) AW (λp g q h d=>D0 (Zj8 _ g) (Zj8 _ h) d) rfl rfl rfl (ZhL _) code (G5 f) hc j k
def Z7n:Tryz.f23.body=J ofC:=Z2
def Z7o:ofC=.seq (Yp ofC [0]) (.seq (Yp ofC [1,0])<|.seq (Yp ofC [1,1,0])<|.seq (Yp ofC [1,1,1,0])<|Yp ofC [1,1,1,1]):=Z2
noncomputable def ops3:Array Oper:=Lp<|Yp ofC [1,1,0]
def Z8P:Yp ofC [1,1,0]=.region 3 ops3 xw:=Z2
def Z8Q:Yp ofC [1,1,1,0]=.region 4 ops4 xw:=Z2
def Z7z:∃o,ops3[0]?=J o/\o.guard=U/\o.dst=J 18/\o.op=.makeChan 117 (.const<|.int .i64 0):=⟨_,rfl,rfl,rfl,rfl⟩
def Z7A:∃o,ops3[1]?=J o/\o.guard=U/\o.dst=J 4/\o.op=.assign (.tmp 18):=⟨_,rfl,rfl,rfl,rfl⟩
def Z7B:∃o,ops4[0]?=J o/\o.guard=U/\o.dst=J 19/\o.op=.load 30 (.tmp 1):=⟨_,rfl,rfl,rfl,rfl⟩
def Z7C:∃o,ops4[1]?=J o/\o.guard=U/\o.dst=J 20/\o.op=.move (.tmp 4):=⟨_,rfl,rfl,rfl,rfl⟩
def Z7D:∃o a,ops4[2]?=J o/\o.guard=U/\o.dst=U/\o.op=.go ⟨.value<|.func 44, #[.tmp 19,.tmp 20],a⟩:=⟨_,_,rfl,rfl,rfl,rfl⟩
def MN:ops3.size=2/\ops4.size=3:=⟨rfl,rfl⟩
def Z3n:∃d inf,Tryz.prog.underlying 117=J (.chan d 124)/\Tryz.prog.info? 124=J inf:=⟨_,_,rfl,rfl⟩
def Z2B{B w w'}(h:Below B w w')d:Below B w<|w'.at d:=⟨h.os,h.tape,h.output,h.size,h.block⟩
def Z4k{b:Zg}{k:Zo}{cs:Z7}{a:Act}{g:Zb}{c:Nat}(l:b.kind≠.early)(d:a.tmps[19]?=J g)(f:a.tmps[20]?=J (.chan<|J c))(w:Z3):
  stepG Tryz.prog xk (G (b.at a<|.inRegion ops4 [2]::k) cs) w=.spawn (G (b.at a<|.inRegion ops4 []::k) cs) (born Tryz.prog {target:=.fn (.func 44) #[],args:=#[g,.chan<|J c]}) w #[]:=by
 obtain⟨o,j,n,p,q,r⟩:=Z7D;have t:=Act.aj a 19 _ d;have u:=Act.aj a 20 _ f;have h:execOp a.eval o=(pure (.spawn {target:=.fn (.func 44) #[],args:=#[g,.chan<|J c]}):Sem Next):=by
  unfold execOp;simp only[r];simp[resolve,Deferred.ofValue,Act.eval,d,f]
 have:=stepG_spawn (P:=Tryz.prog) (main:=xk) (b:=b) (a:=a) (k:=k) (cs:=cs) (w:=w) (i:=2) (rest:=[]) n (by simp[Region.wanted,p]) l (by rw[h];rfl) rfl;rw[q]at this;rw[this];unfold listed;rw[h];rfl
def Z7r{h B G s a w w0 T0}(S:RelS G [4,23] T0 cB B G w0 82 s a w Oz)(q1:get s 1=.m [vu h.base,vi h.cap,vi h.to,.bool h.M,vi h.Z,.sl<|h.H.map vu,.sl<|h.aa.map vu,.sl<|h.ah.map vu,.sl<|h.ak.map vu,.sl<|h.E.map vu])(q3:get s 3=.v (vi 0)):
  ∃(F:Z4) (k l:Nat) (r t:Zd) (x:Z5),(∀b,F b->G b\/B<=b)/\¬F k/\¬F l/\B<=k/\B<=l/\k≠l/\B<=xz (xj w)/\a.tmps[1]?=J (.pointer<|J ⟨k,0,U⟩)/\a.tmps[2]?=J (.pointer<|J ⟨l,0,U⟩)/\a.tmps[3]?=J (.int .i64 0)/\
   w.heap[k]?=J (.cells #[.int .u64 h.base,.int .i64 h.cap,.int .i64 h.to,.bool h.M,.int .i64 h.Z,x 0,x 1,x 2,x 3,x 4] r (0,0))/\w.heap[l]?=J (.cells #[.slice U 0 0,.slice U 0 0] t (0,0))/\
   (∀j,j<5->Rd w F (.sl<|(Zu h j).map vu) (x j)):=by
 let⟨⟨L,k1,k2⟩,k3,k4,k5,k6⟩:=S;have X:cB.ix 1=1:=ZgK;have Y:cB.ix 3=3:=ZgK;obtain⟨u1,t1,k,d,r,P,rfl,f3,H⟩:=k1.ab 1 (by rw[Yw];exact VX _) Zhw;obtain⟨u2,t2,l,f,t,g1,rfl,g3,K⟩:=k1.ab 2 (by rw[Yw];exact VX _) Zhw;let⟨u3,t3,u⟩:=k1.ab 3 (by rw[Yw];exact VX _) Zhw;obtain⟨y3,o,A⟩:∃y,eval s _=J y/\Rd w _ y u3:=u;rw[Y]at o;simp[eval,q3,ZhF]at o;subst o;have M:=SA A;subst M;have T:d.size=10:=H.1;have W:f.size=2:=K.1;have g:∀i y,[vu h.base,vi h.cap,vi h.to,.bool h.M,vi h.Z,.sl<|h.H.map vu,.sl<|h.aa.map vu,.sl<|h.ah.map vu,.sl<|h.ak.map vu,.sl<|h.E.map vu][i]?=J y->Rd w L.F y _:=λi y n=>by
  have p:i<10:=(ZhH.1 n).1
  have:=H.2 i (.fz,.m (cB.ix 1) i) (by
   match i,p with
   |0,_=>rfl
   |1,_=>rfl
   |2,_=>rfl
   |3,_=>rfl
   |4,_=>rfl
   |5,_=>rfl
   |6,_=>rfl
   |7,_=>rfl
   |8,_=>rfl
   |9,_=>rfl
   |i+10,h=>omega)
  let⟨z,D,z2,z3⟩:=this;rw[X]at D;simp[eval,q1,n,ZhT]at D;obtain⟨rfl,_⟩:=Sy D;exact z3
 have R:∀i,i<2->f.getD i xy=.slice U 0 0:=λi n=>by
  have:=K.2 i (.nil,.m (cB.ix 2) i) (by
   grind)
  exact this.1
 have N:d=#[.int .u64 h.base,.int .i64 h.cap,.int .i64 h.to,.bool h.M,.int .i64 h.Z,d.getD 5 xy,d.getD 6 xy,d.getD 7 xy,d.getD 8 xy,d.getD 9 xy]:=by
  refine Zka Z0 λi q C=> ?_;have n:i<10:=by simpa using C
  have e:d[i]=d.getD i xy:=by simp[Array.getD,q]
  rw[e]
  match i,n with
  |0,_=>exact SA<|g 0 _ rfl
  |1,_=>exact SA<|g 1 _ rfl
  |2,_=>exact SA<|g 2 _ rfl
  |3,_=>exact OD<|g 3 _ rfl
  |4,_=>exact SA<|g 4 _ rfl
  |5,_=>rfl
  |6,_=>rfl
  |7,_=>rfl
  |8,_=>rfl
  |9,_=>rfl
  |i+10,h=>omega
 have O:f=#[.slice U 0 0,.slice U 0 0]:=by
  refine Zka Z0 λi q C=> ?_;have n:i<2:=by simpa using C
  have e:f[i]=f.getD i xy:=by simp[Array.getD,q]
  rw[e,R i n]
  match i,n with
  |0,_=>rfl
  |1,_=>rfl
  |i+2,h=>omega
 let⟨Z,m2,m3⟩:=k1.ok.aq 1 0 k P;let⟨n1,n2,n3⟩:=k1.ok.aq 2 0 l g1;refine⟨L.F,k,l,r,t,λj=>d.getD (5+j) xy,k1.ok.co,m3,n3,Z,n1,λe=> ?_,Z0,t1,t2,t3,ZgH,ZgH,λj Q=> ?_⟩;grind
 match j,Q with
 |0,_=>exact g 5 _ rfl
 |1,_=>exact g 6 _ rfl
 |2,_=>exact g 7 _ rfl
 |3,_=>exact g 8 _ rfl
 |4,_=>exact g 9 _ rfl
 |j+5,h=>omega
def EA{h:Hp}(hh:h.ok)(hk:Yk h=xk->OfOk h):VC (YY Tryz.prog) 23 xw [ZE h]<|Jt h:=by
 refine⟨Z2,λw G vs hG h3 g8 q C hK=> ?_⟩;have Y:VC (YY Tryz.prog) 8 xw [ZE h]<|.bool<|Yk h:=IP QS (zy hh) (λy hy=>by rw[ZiN.1 hy];exact Ld h)<|.bool _;have d9:vs.size=1:=h3;have h5:Rd w G (ZE h)<|vs.getD 0 xy:=g8 0 _ rfl;have Z:Frame.enter Tryz.prog 23 vs .normal=(base 23).at {tmps:=vs++Array.replicate (82-vs.size) xy,defers:=[]} [.code ofC]:=by
  rw[enter_at vs Tryz.func23 Z7n,Tryz.ntmps23]
 show Walk Tryz.prog C (Frame.enter Tryz.prog 23 vs .normal) q w;rw[Z,Z7o];clear Z;have i0:cB.ix 0=0:=ZgK;generalize a4:({tmps:=vs++Array.replicate (82-vs.size) xy,defers:=[]}:Act)=a0;have t0:a0.tmps[0]?=J (vs.getD 0 xy):=by
  rw[<-a4];simp only;rw[ZjI Z0];simp[ZhM,d9]
 have g7:RelS G [4,23] a0.tmps cB (xz<|xj w) G w 82 [.v<|ZE h] a0 w qX:=by
  refine⟨⟨{F:=G,bl:=λ_ _=>U,K:=G},⟨⟨ZhL _,hG,λb a=>.inl a,λb a=>a,λt i b a=>(by cases a),λt i u j b a=>(by cases a),hG,λt i b a=>(by cases a),λb a=>.inl a⟩,λt _ hk=> ?_,λt hh=> ?_⟩,rfl⟩,λp B=> ?_,.refl _ _,by rw[<-a4];simp[d9],by rw[<-a4]⟩;rw[Yw]at hk⊢;by_cases e:t=0;subst e;exact⟨_,t0,ZE h,by rw[i0];rfl,h5.mono λb a=>.inl a⟩;simp[qX,SS.at,Zju e,TK.bj]at hk;refine absurd ?_ hh;rw[Yw];split<;>exact VX _;simp only[qX,SS.at]at B;split at B<;>cases B
 refine .cr (MD Z2 r0c g7 (N:=λs'=>get s' 1=.m [vu h.base,vi h.cap,vi h.to,.bool h.M,vi h.Z,.sl<|h.H.map vu,.sl<|h.aa.map vu,.sl<|h.ah.map vu,.sl<|h.ak.map vu,.sl<|h.E.map vu]/\get s' 2=.m [.sl [],.sl []]/\get s' 3=.v (vi 0)) (X:=λ_ _=>False) (Rt:=λ_=>False) (by simp[r0]) (base 23) _ q C (by simp[base]) λe a1 w1 B=> ?_);cases e with
 |exit id=>obtain⟨_,_,_,h,_⟩:=B;exact h.elim
 |ret=>obtain⟨_,_,_,h,_⟩:=B;exact h.elim
 |normal=>
  obtain⟨s1,S1,f8,⟨q1,q2,q3⟩,d7⟩:=B;cases f8;have b6:Below (xz<|xj w) w w1:=d7.2.2.1.below;refine .cr (MD Z2 rXc d7.base (N:=λs'=>Yk h=xk/\get s' 1=get s1 1/\get s' 3=get s1 3) (X:=λ_ _=>False) (Rt:=λs'=>Yk h=xw/\Wr s' [(2,.ag 2),(3,.v)]=J (.al [Yx UP,vi 1])) ?_ (base 23) _ q C (by simp[base]) λe a2 w2 B=> ?_);simp[rX,q1];refine Zy Y Z1 ?_;cases i6:Yk h;simp[YX,Wr,U9,Ts,UP,Yx];simp[YX,q1];cases e with
  |exit id=>obtain⟨_,_,_,h,_⟩:=B;exact h.elim
  |ret=>
   obtain⟨s2,S2,L,⟨e1,e2⟩,l⟩:=B;have L:S2=D7:=Zhs;subst L;have a6:Below (xz<|xj w) w w2:=b6.trans l.2.2.1.below;intro i3;refine hK _ w2 rfl ⟨rfl,l.2.2.2.2,rfl,_,Tryz.func23,λd=> ?_⟩;obtain⟨⟨h2,k1,k2⟩,k3,k4,k5,k6⟩:=l.ly d
   obtain⟨v,hv,a9⟩:=LU (c:=cB) (f:=Tryz.f23) (D:=λb=>(xw=xw/\G b)\/(xz (xj w)<=b/\b< xz (xj<|w2.at d))) k1 k3 (λb a=>by
    obtain R|R:=k1.ok.co b a;exact .inl ⟨rfl,R⟩;exact .inr ⟨R,k1.ok.bm b a⟩) (λr hr=>⟨ZhV.1 (Z2:(Tryz.f23.results.toList.all<|Rm (YY Tryz.prog) D7)=xk) r hr,λi b a=>.inr ⟨(k1.ok.aq _ _ b a).1,(k1.ok.aq _ _ b a).2.1⟩⟩) (x:=.al [Yx UP,vi 1]) (by rw[<-e2];exact ZiP (Wr s2) Z2)
   refine⟨v,hv,v,rfl,Z2B a6 d,?_⟩;unfold Jt;rw[ZhP (by rw[e1];simp)];exact a9
  |normal=>
   obtain⟨s2,S2,L,⟨e1,e2,e3⟩,l⟩:=B;cases L;have a6:Below (xz<|xj w) w w2:=b6.trans l.2.2.1.below;have W:=hk e1;obtain⟨F,Q,b2,T1,T2,x,hF,h6,h7,f6,f7,f5,i4,t1,t2,t3,e4,e5,g9⟩:=Z7r (h:=h) l (e2.trans q1)<|e3.trans q3;have e0:a2.tmps.size=82:=l.2.2.2.1;have g3:a2.defers=[]:=l.2.2.2.2;have l1:=(ZhN.1 e4).1;have l2:=(ZhN.1 e5).1;obtain⟨o,o1,o2,o3,o4⟩:=Z7z;obtain⟨o',p1,p2,p3,p4⟩:=Z7A;obtain⟨dir,inf,h4,c7⟩:=Z3n;refine .cr ?_;rw[Z8P];refine .region ?_;rw[MN.1,show List.range 2=[0,1]from rfl];refine Walk.chan (i:=0) o1 (by simp[Region.wanted,o2]) (by simp[base]) o4 h4 c7 ?_;rw[o3];generalize hc:xz (xj w2)=c;obtain⟨w3,M⟩:∃w3,w3=w2.alloc (.chan 0 #[] xw 0 0 xw):=⟨_,rfl⟩;rw[<-M];have b4:((a2.put (J 18)<|.chan<|J c).eval<|.tmp 18)=.chan (J c):=Act.aj _ 18 _<|RT Z0;refine Walk.val (i:=1) (v:=.chan<|J c) p1 (by simp[Region.wanted,p2]) (by simp[base]) (by rw[p4];rfl) (λw' _=>by unfold execOp;simp only[p4,b4];rfl)<|.gd ?_;rw[p3];have z3:xz (xj w3)=c+1:=by rw[M,<-hc];simp
   have b7:w3.heap[c]?=J (.chan 0 #[] xw 0 0 xw):=by rw[M,<-hc];exact Zi7 ..
   have S:∀b,b<c->w3.heap[b]?=w2.heap[b]? :=λb a=>by rw[M];exact ZhU _ _ _ Z0
   have A:Below (xz<|xj w) w w3:=by rw[M];exact a6.alloc Z0 _
   have m1:w3.heap[Q]?=_:=(S Q Z0).trans e4;have m2:w3.heap[b2]?=_:=(S b2 Z0).trans e5;obtain⟨o0,e7,e8,e9,b0⟩:=Z7B;obtain⟨o9,f0,f1,f2,b3⟩:=Z7C;refine .cr ?_;rw[Z8Q];refine .region ?_;rw[MN.2,show List.range 3=[0,1,2]from rfl];generalize z:(a2.put (J 18)<|.chan<|J c).put (J 4) (.chan<|J c)=a3;have g1:a3.tmps[1]?=J (.pointer<|J ⟨Q,0,U⟩):=by rw[<-z,WM Z0,WM Z0];exact t1
   have g4:a3.tmps[4]?=J (.chan<|J c):=by rw[<-z];exact RT (by rw[R1];omega)
   have gs:a3.tmps.size=82:=by rw[<-z,R1,R1];exact e0
   have f3:a3.eval (.tmp 1)=.pointer (J ⟨Q,0,U⟩):=Act.aj _ 1 _ g1;refine Walk.val (i:=0) (v:=ZA h x) e7 (by simp[Region.wanted,e8]) (by simp[base]) (by rw[b0];rfl) (λw' he=> ?_) ?_
   have hl:=jn (P:=Tryz.prog) (w:=w') (T:=30) Z2 Z2 (b:=Q) (o:=0) [.int .u64 h.base,.int .i64 h.cap,.int .i64 h.to,.bool h.M,.int .i64 h.Z,x 0,x 1,x 2,x 3,x 4] Z2 (λi u hi=>by
    rw[Zit,ZhQ w' Q i _ T1 (0,0) (by rw[he];exact m1)];simpa using hi)
   unfold execOp;simp only[b0,f3];rw[Ziu,hl];rfl;rw[e9];have f4:(a3.put (J 19)<|ZA h x).eval (.tmp 4)=.chan (J c):=Act.aj _ 4 _ (by rw[WM Z0];exact g4);refine Walk.val (i:=1) (v:=.chan<|J c) f0 (by simp[Region.wanted,f1]) (by simp[base]) (by rw[b3];rfl) (λw' _=>by unfold execOp;simp only[b3,f4];rfl) ?_;rw[f2];generalize k:(a3.put (J 19)<|ZA h x).put (J 20) (.chan<|J c)=O;have u1:O.tmps[1]?=J (.pointer<|J ⟨Q,0,U⟩):=by rw[<-k,WM Z0,WM Z0];exact g1
   have u4:O.tmps[4]?=J (.chan<|J c):=by rw[<-k,WM Z0,WM Z0];exact g4
   have us:O.tmps.size=82:=by rw[<-k,R1,R1];exact gs
   have u2:O.tmps[2]?=J (.pointer<|J ⟨b2,0,U⟩):=by rw[<-k,WM Z0,WM Z0,<-z,WM Z0,WM Z0];exact t2
   have u3:O.tmps[3]?=J (.int .i64 0):=by rw[<-k,WM Z0,WM Z0,<-z,WM Z0,WM Z0];exact t3
   have i1:O.tmps[19]?=J (ZA h x):=by rw[<-k,WM Z0];exact RT Z0
   have i2:O.tmps[20]?=J (.chan<|J c):=by rw[<-k];exact RT (by rw[R1];omega)
   have ud:O.defers=[]:=by rw[<-k,<-z];exact g3
   let K:Nat->Prop:=λb=>F b/\∃q e H,w3.heap[b]?=J (.cells q e H);have a7:∀j,j<5->Rd w3 K (.sl<|(Zu h j).map vu) (x j):=λj hj=>by
    have R:=Z92 (g9 j hj)<|My _;refine R.keep (λb a=>S b ?_) λb a=>⟨a.1,?_⟩;obtain⟨_,q,e,H,a⟩:=a;have:=(ZhN.1 a).1;omega;obtain⟨_,q,e,H,a⟩:=a;exact⟨q,e,H,by rw[S b (by have:=(ZhN.1 a).1;omega)];exact a⟩
   obtain⟨n0,d5,c1,c0⟩:=GX w3<|O.tmps++ #[x 0,x 1,x 2,x 3,x 4];have hx:∀j,j<5->FixV n0 (x j):=λj hj=>by
    refine c1 _<|Zje.2<|.inr ?_
    match j,hj with
    |0,_=>simp
    |1,_=>simp
    |2,_=>simp
    |3,_=>simp
    |4,_=>simp
    |j+5,h=>omega
   have b8:c<n0:=Z0;have h8:¬K Q:=λh=>h6 h.1;have h9:¬K b2:=λh=>h7 h.1;have b5:∀b,K b->b<xz (xj w3):=λb ⟨_,_,_,_,a⟩=>(ZhN.1 a).1;have e6:¬K c:=λ⟨_,_,_,_,a⟩=>by rw[b7]at a;cases a
   refine Walk.uk (KA:=K) (KB:=K) (OA0:=λb=>b=Q\/b=b2) (c:=c) (λw=>Z4k (by simp[base]) i1 i2 w)
    (Z6o (fs:=TO h x 4 0) (fin:=XT h) hh us ud u1 u2 u3 u4 m1 m2 Z0 f6 f7 f5 h8 h9 d5 b8 (λb a=>a.2) (λb q e H a=>c0 b q e H a) (λv hv=>c1 v<|Zje.2<|.inl hv) hx a7 (Z4b W a7) (Hh h x 4 0) (by
     have:=W.n;rw[<-AY h x 4 0,Zia]at this;exact this) (by rw[AY];rfl) W.sm)
    (Z3o hh d5 b8 (λb a=>a.2) (λb o ho a=>by
     obtain⟨_,q,e,H,he⟩:=a;rw[ho]at he;cases he;exact c0 b q e H ho) hx a7 W.ob) b7 (λb a=>by obtain rfl|rfl:=a<;>omega) b5 b5 (λb a=>by obtain rfl|rfl:=a<;>assumption) (λa=>by obtain a|a:=a<;>omega) e6 e6 ?_
   rintro OA g w' ⟨H,rfl,b9,hm,hd,g6,d8⟩ h0 a8 d6 i5 g5;refine⟨H,q,rfl,hK H w' b9 ⟨hm,hd,g6,_,by rw[b9];exact Tryz.func23,λd=> ?_⟩⟩;obtain⟨v,hv,a9⟩:=d8 d;refine⟨v,hv,v,rfl,⟨(ZiP Prod.fst d6).trans A.os,a8.trans A.tape,(ZiP Prod.snd d6).trans A.output,Zif A.size h0,λb a=>(g5 b (by have:=A.size;omega) (λf9=>by obtain rfl|rfl:=f9<;>omega) Z0).trans<|A.block b a⟩,?_⟩;unfold Jt;rw[ZhS e1];refine a9.mono λb a=> ?_;obtain⟨a,d0⟩:=a;obtain a|a:=a;obtain R|R:=hF b a.1;exact .inl ⟨rfl,R⟩;exact .inr ⟨R,d0⟩;exact .inr ⟨a,d0⟩
  |_=>exact B.elim
 |_=>exact B.elim
#print axioms EA
end Vm
end
section
namespace Vm
open Go Go.Proofs
def VV(l:Zk):List<|Int×Int:=(l.filter λo=>o.gone).map λo=>(o.size,o.Y)
def Z0h{ws:Z9}{shs:List (Int×Int)}{old:Bool}:∀(l:Zk) (f a k:Nat) (g:Zk),Tiles ws old a l->I ws<f+a->0<f->shs.drop k=VV l->Xs ws shs old f a k g=(g++l,0)
 | [],f,a,k,g,D,M,K,B=>by
   obtain⟨f,rfl⟩:∃C,f=C+1:=⟨f-1,Z0⟩;have:I ws<=a:=D;have r:I shs<=k:=List.drop_eq_nil_iff.1 B;rw[Xs,ZiM this];simp only;rw[ZhP Z0,Zj4]
 |o::l,f,a,k,g,D,M,K,B=>by
  obtain⟨f,rfl⟩:∃C,f=C+1:=⟨f-1,Z0⟩;obtain⟨t,r,L⟩:=D;obtain⟨w,F,j⟩:=r.word;have O:=Yz.1 r.shape;have u:=r.an;have q:=r.ff;rw[t]at F u q;simp only[Zi1]at F q;have z:∀d:Nat,shs.drop d=VV l->Xs ws shs old f (a+1+o.size.toNat) d (g++[o])=(g++o::l,0):=λd p=>by
   rw[Z0h l f _ d _ L Z0 Z0 p];simp
  have y:∃d,Wm shs old a k w=J (o,d)/\shs.drop d=VV l:=by
   unfold Wm;cases n:o.gone;rw[n]at j;simp only[Zi2,ZiF]at j;rw[ZhP (λh=>j.1 h.1 h.2),j.2.1];refine⟨k,?_,?_⟩;simp only[ZiC];obtain⟨P,R,op,Q,S⟩:=o;simp only at n t j⊢;rw[n,t,j.2.2];rw[B];simp[VV,n];rw[n]at j;simp only[ZiC]at j;rw[ZhS ⟨j.1,j.2.1⟩];have A:shs.drop k=(o.size,o.Y)::VV l:=by rw[B];simp[VV,n]
   have x:k<I shs:=by
    have:=ZiP List.length A;simp at this;omega
   rw[ZiD x]at A;have G:=(List.cons.inj A).1;have H:=(List.cons.inj A).2;rw[ZhG x,G];simp only[r.shape,ZiC];refine⟨k+1,?_,H⟩;obtain⟨P,R,op,Q,S⟩:=o;simp only at n t j⊢;rw[n,t,j.2.2]
  obtain⟨d,N,p⟩:=y;rw[Xs,F];simp only;rw[N];simp only;rw[ZhP Z0,ZhP (by rw[q];simp)];exact z d p
def zp{ws:Z9}{shs:List (Int×Int)}{old:Bool}{l:Zk}(d:Tiles ws old 0 l)(a:shs=VV l):ZP ws shs old=(l,0):=by
 unfold ZP;rw[Z0h l (I ws+1) 0 0 [] d Z0 Z0 Zhu,ZiB]
def QQ(h:Hp)(low l:Zk):Prop:=∀o∈l,o.gone=xk->∃q,YA h 1 low o.target=J q/\q.size=o.size/\q.Y=o.Y
def jy{h:Hp}{ws:Z9}{low:Zk}:∀(l:Zk) (f i:Nat) (a:List<|Int×Int),Tiles ws xk i l->I ws<f+i->0<f->QQ h low l->Ve h ws low f i a=J (a++VV l)
 | [],f,i,a,u,D,B,r=>by
   obtain⟨f,rfl⟩:∃n,f=n+1:=⟨f-1,Z0⟩;have:I ws<=i:=u;rw[Ve,ZiM this];simp[VV]
 |o::l,f,i,a,u,D,B,r=>by
  obtain⟨f,rfl⟩:∃n,f=n+1:=⟨f-1,Z0⟩;obtain⟨C,p,y⟩:=u;obtain⟨w,x,g⟩:=p.word;have F:=Yz.1 p.shape;have j:=p.an;rw[C]at x j;simp only[Zi1]at x;have k:QQ h low l:=λq t=>r q<|Zio _ t;rw[Ve,x];simp only;cases d:o.gone;rw[d]at g;simp only[Zi2,ZiF,true_implies]at g;rw[ZhP g.1,g.2.1];simp only[ZiC];rw[jy l f _ a y Z0 Z0 k];simp[VV,d];rw[d]at g;simp only[ZiC,true_and]at g;rw[ZhS g.1];obtain⟨q,t,z,A⟩:=r o (.head _) d;rw[<-g.2,t];simp only;rw[z,A,jy l f _ _ y Z0 Z0 k];simp[VV,d]
def NV{h:Hp}{p:Pts}(d:Tiles h.H xw 0 p.H)(h2:Tiles h.aa xw 0 p.aa)(f:Tiles h.ah xk 0 p.ah)(g:Tiles h.ak xk 0 p.ak)(q:QQ h p.H p.ah)(r:QQ h p.H p.ak):XF h=J p:=by
 have k:∀ {n:Z9} {a:Nat} {l:Zk},Tiles n xw a l->VV l=[]:=λ{n a l} x=>by
  unfold VV;rw[List.map_eq_nil_iff,ZkJ];intro o u t;obtain⟨w,_,j⟩:=(x.ba o u).1.word;rw[ZhS t]at j;cases j.1
 unfold XF;rw[zp d (k d).symm,zp h2 (k h2).symm];unfold VI;simp only[Zm1,Zls,or_self,ZiF];rw[jy p.ah _ 0 [] f Z0 Z0 q,jy p.ak _ 0 [] g Z0 Z0 r];simp only[ZiB,Zih];rw[zp f rfl,zp g rfl];simp
def OX{h:Hp}{p:Pts}(a:TS h=xk)(d:XF h=J p)(f:SI h p=xk):Yk h=xk:=by
 unfold Yk;rw[a,d];simpa using f
def FS{h:Hp}{k:Int}{l:Zk}{o:Ob}(a:o∈l)(f:∀q∈l,YW h k q.ab=YW h k o.ab->q=o):YA h k l (YW h k o.ab)=J o:=by
 unfold YA;induction l with
 |nil=>simp at a
 |cons x l j=>
  rw[List.find?_cons];by_cases d:YW h k x.ab=YW h k o.ab;rw[f x (.head _) d];simp;have:(YW h k x.ab==YW h k o.ab)=xw:=ZgW;rw[this];obtain rfl|a:=Zi6.1 a;exact absurd rfl d;exact j a λq g=>f q<|Zio _ g
def Ae{h:Hp}{k:Int}{l:Zk}{a:Int}:(YA h k l a).isSome=xk↔ ∃o∈l,YW h k o.ab=a:=by
 unfold YA;rw[List.find?_isSome];simp
section
structure Tld (h:Hp) (p:Pts):Prop where
 bc:ZI (Zv h)=xk
 am:∀k:Int,1<=k/\k<=4->Tiles (Zz h k) (decide (2<k)) 0 (p.at k)
def Gos(h:Hp)(p:Pts)(w one a:Int):Prop:=w=0\/∃k o,(k=one\/k=a)/\o∈p.at k/\w=ZX (Zv h) k o.ab
def Xx(h:Hp)(p:Pts)(k:Int)(i:Nat)(w:Int):Prop:=if 2<k then Gos h p w 3 4 else if k=1/\h.Z<=i then Gos h p w 1 2\/Gos h p w 3 4 else Gos h p w 1 2
section
variable {h:Hp}{p:Pts}
def Tld.ob(t:Tld h p){k:Int}(g:1<=k/\k<=4){o:Ob}(j:o∈p.at k):∃a n m:Nat,o.ab=a/\o.size=n/\o.Y=m/\a+(n+1)<=I (Zz h k)/\n<=255/\m<=n:=by
 have d:=((t.am k g).ba o j).1;have f:=Yz.1 d.shape;obtain⟨a,l⟩:=ZhW d.gl;obtain⟨n,r⟩:=ZhW f.1;obtain⟨m,q⟩:=ZhW f.2.2.1;have:=d.an;grind
def Tld.start(t:Tld h p){k:Int}(d:1<=k/\k<=4){o:Ob}(f:o∈p.at k):YW h k o.ab=ZC (Zv h) k+o.ab:=by
 obtain⟨a,n,m,g,_,_,j,_⟩:=t.ob d f;unfold YW;rw[R0 t.bc d (by grind [Tv])]
def Tld.dm(t:Tld h p){k:Int}(d:1<=k/\k<=4){o q:Ob}(f:o∈p.at k)(g:q∈p.at k)(e:q.ab=o.ab):q=o:=by
 rcases(t.am k d).apart q g o f with a|a|a;exact a;have:=Yz.1 ((t.am k d).ba q g).1.shape;omega;have:=Yz.1 ((t.am k d).ba o f).1.shape;omega
def Tld.find(t:Tld h p){k:Int}(a:1<=k/\k<=4){o:Ob}(d:o∈p.at k):YA h k (p.at k) (ZC (Zv h) k+o.ab)=J o:=by
 rw[<-t.start a d];refine FS d λq f e=>t.dm a d f ?_;rw[t.start a d,t.start a f]at e;omega
theorem Tld.inj(t:Tld h p){k j:Int}(d:1<=k/\k<=4)(f:1<=j/\j<=4){o q:Ob}(g:o∈p.at k)(l:q∈p.at j)(e:ZX (Zv h) k o.ab=ZX (Zv h) j q.ab):k=j/\o=q:=by
 obtain⟨a,n,m,x,_,_,z,_⟩:=t.ob d g;obtain⟨b,B,A,y,_,_,w,_⟩:=t.ob f l;obtain⟨r,u⟩:=Z9e t.bc d f (by grind [Tv]) (by grind [Tv]) e;subst r;exact⟨rfl,t.dm d l g u⟩
def Tld.kx(t:Tld h p){k:Int}(d:1<=k/\k<=4){o:Ob}(f:o∈p.at k):adr (ZX (Zv h) k o.ab)=(ZC (Zv h) k+o.ab,0):=by
 obtain⟨a,n,m,g,_⟩:=t.ob d f;exact UB t.bc Z0
def Tld.mo(t:Tld h p){k:Int}(d:1<=k/\k<=4){w:Int}(f:(Vm.adr w).2=0):(YA h k (p.at k) (Vm.adr w).1).isSome=xk↔ ∃o∈p.at k,w=ZX (Zv h) k o.ab:=by
 rw[Ae];constructor;rintro⟨o,a,e⟩;rw[t.start d a]at e;exact⟨o,a,Z0s f e.symm⟩;rintro⟨o,a,rfl⟩;exact⟨o,a,by rw[t.kx d a,t.start d a]⟩
def Tld.dh(t:Tld h p){i j:Int}(g:1<=i/\i<=4)(l:1<=j/\j<=4){w:Int}:XA h p w i j=xk↔Gos h p w i j:=by
 unfold XA Gos;by_cases d:w=0;simp[d];by_cases a:(Vm.adr w).2=0;simp only[d,a,ZlW,Zlg,ZkW,Zkz,ZhZ,false_or,t.mo g a,t.mo l a];simp;simp only[d,a,Zlg,ZkO,Bool.or_self,Zi2,false_or,false_iff];rintro⟨k,o,n,q,rfl⟩;have f:1<=k/\k<=4:=by obtain rfl|rfl:=n<;>assumption
 exact a (by rw[t.kx f q])
def PF:∀ {l:Z9} {a:Int} {i:Nat},Xw l xk a i=xk->∀w∈l,w=0
 | [],_,_,_,w,d=>by simp at d
 |y::l,a,i,f,w,d=>by
  simp only[Xw,ZhJ]at f;obtain rfl|d:=Zi6.1 d;have g:=f.1;simp at g;exact g.1;exact PF f.2 w d
def Tld.ux(t:Tld h p){k:Int}(d:1<=k/\k<=4){o:Ob}(f:o∈p.at k){j:Nat}(x:(j:Int)<o.size):∃w,(Zz h k)[o.ab.toNat+1+j]?=J w/\(o.gone=xk->w=0):=by
 obtain⟨a,n,m,l,u,z,y,_⟩:=t.ob d f;have r:a+1+j< I (Zz h k):=Z0;refine⟨(Zz h k)[a+1+j],ZgI,λq=> ?_⟩;have g:=((t.am k d).ba o f).1.ff;rw[q]at g;refine PF g _ ?_;rw[l,u,Zi1,Zi1];refine ZhR (i:=j) ?_;simp_all
end
structure Body (h:Hp) (p:Pts):Prop extends Tld h p where
 gone:∀k:Int,3<=k/\k<=4->∀o∈p.at k,o.gone=xk->∃q∈p.H,o.target=ZC (Zv h) 1+q.ab/\q.size=o.size/\q.Y=o.Y
 ptr:∀k:Int,1<=k/\k<=4->∀o∈p.at k,o.gone=xw->∀j:Nat,(j:Int)<o.Y->∀w,(Zz h k)[o.ab.toNat+1+j]?=J w->Xx h p k (o.ab.toNat+1+j) w
 room:(I h.H:Int)+I h.aa+YK p<=h.cap
structure Rt (h:Hp) (p:Pts):Prop extends Body h p where
 fh:I h.E<=16
 ip:0<=h.Z
 ku:h.Z<=I h.H
 kz:h.M=xk->h.Z<I h.H
 rest:h.M=xw->h.Z=I h.H/\h.ah=[]/\h.ak=[]
 ga:h.M=xk->∀o∈p.H,Tx p (ZC (Zv h) 1+o.ab)=1
 E:∀w∈h.E,Gos h p w 1 2
section
variable {h:Hp}{p:Pts}
def EG(t:Tld h p){k:Int}{i:Nat}{w:Int}(a:(Zz h k)[i]?=J w):Uv h p k i=xk↔Xx h p k i w:=by
 unfold Uv Xx;simp only[a,Zih];split;exact t.dh Z0 Z0;split;rw[ZhZ,t.dh Z0 Z0,t.dh Z0 Z0];exact t.dh Z0 Z0
theorem EH(k:Int)(i:Nat):Xx h p k i 0:=by
 unfold Xx;split;exact .inl rfl;split;exact .inl<|.inl rfl;exact .inl rfl
def Om(t:Tld h p){k:Int}(g:1<=k/\k<=4):WI h p k=xk↔ ∀o∈p.at k,o.gone=xw->∀j:Nat,(j:Int)<o.Y->∀w,(Zz h k)[o.ab.toNat+1+j]?=J w->Xx h p k (o.ab.toNat+1+j) w:=by
 unfold WI qn;simp only[ZhV,Zkq];constructor;intro l o d _ j q w f;exact(EG t f).1 (l o d j Z0);intro l o d j q;obtain⟨a,n,m,r,y,x,u,_⟩:=t.ob g d;obtain⟨w,f,z⟩:=t.ux g d (j:=j) Z0;refine(EG t f).2 ?_;grind [EH]
def RightH.vm(r:RightH h p):Tld h p:=⟨r.bc,λk a=>r.am a⟩
def RightH.rt(r:RightH h p):Rt h p:=by
 have t:=r.vm;have j:=r.num;have a:=r.ok;unfold TS at j;unfold SI at a;simp only[ZhJ,Zid]at j a;obtain⟨⟨⟨⟨G,A⟩,B⟩,C⟩,H⟩:=j;obtain⟨⟨⟨⟨⟨⟨l,D⟩,K⟩,L⟩,M⟩,N⟩,F⟩:=a;have f:∀k:Int,1<=k/\k<=4->WI h p k=xk:=λk d=>by
  have:k=1\/k=2\/k=3\/k=4:=Z0;grind
 refine⟨⟨t,λk d o a y=> ?_,λk d=>(Om t d).1<|f k d,F⟩,A,B,C,λg=> ?_,λg=> ?_,λg o a=> ?_,λw z=> ?_⟩;obtain⟨q,n,e,u,x⟩:=r.ni d a y;exact⟨q,n,by rw[<-e,t.start (k:=1) Z0 n],u,x⟩;simp_all;simp_all;rw[g]at l;simp only[Zky,ZkW,ZhV]at l;have:=l o a;unfold RF at this;rw[t.start (k:=1) Z0 a]at this;simp_all;exact(t.dh Z0 Z0).1 (ZhV.1 D w z)
def Rt.fa(r:Rt h p):XF h=J p:=by
 have g:∀k:Int,3<=k/\k<=4->QQ h p.H (p.at k):=λk j o l f=>by
  obtain⟨q,n,e,a,d⟩:=r.gone k j o l f;exact⟨q,by rw[e];exact r.toTld.find (k:=1) Z0 n,a,d⟩
 exact NV (r.am 1 Z0) (r.am 2 Z0) (r.am 3 Z0) (r.am 4 Z0) (g 3 Z0)<|g 4 Z0
theorem Rt.right(r:Rt h p):Yk h=xk:=by
 have t:=r.toTld;refine OX ?_ r.fa ?_;unfold TS;simp only[ZhJ,Zid];refine⟨⟨⟨⟨r.bc,r.fh⟩,r.ip⟩,r.ku⟩,?_⟩;cases a:h.M;obtain⟨l,n,q⟩:=r.rest a;simp_all;simp[r.kz a];unfold SI;simp only[ZhJ,Zid];have d:=λk f=>(Om t f).2<|r.ptr k f;refine⟨⟨⟨⟨⟨⟨?_,?_⟩,d 1 Z0⟩,d 2 Z0⟩,d 3 Z0⟩,d 4 Z0⟩,r.room⟩;cases a:h.M;rfl;simp only[Zky,ZkW,ZhV];intro o g;unfold RF;rw[t.start (k:=1) Z0 g,Zid];exact r.ga a o g;rw[ZhV];exactλw j=>(t.dh Z0 Z0).2<|r.E w j
def Rx:Yk h=xk↔ ∃p,Rt h p:=
 ⟨λa=>by obtain⟨p,r⟩:=Z9v a;exact⟨p,r.rt⟩,λ⟨p,r⟩=>r.right⟩
def Rt.gh{q:Pts}(r:Rt h p)(s:Rt h q):q=p:=by
 have:=r.fa;rw[s.fa]at this;simp_all
def Rt.ul(r:Rt h p){k:Int}(a:1<=k/\k<=4):UQ h k=(p.at k,0):=by
 unfold UQ;rw[ZhS ⟨r.right,a⟩,r.fa];rfl
def Rt.nf(r:Rt h p):Uc h=YK p:=by
 unfold Uc;rw[ZhS r.right,r.fa];rfl
end
end
section
def WU(l:Zk):Nat:=(l.map λo=>1+o.size.toNat).sum
def Tiles.sum{ws old}:∀ {a} {l:Zk},Tiles ws old a l->a<=I ws->a+WU l=I ws
 |a,[],h,d=>by have:I ws<=a:=h;simp[WU];omega
 |a,o::l,h,d=>by
  have g:=Yz.1 h.2.1.shape;have f:=h.2.1.an;rw[h.1]at f;have:=Tiles.sum h.2.2 Z0;simp[WU]at this⊢;omega
def Tiles.iy{ws old l}(h:Tiles ws old (I ws) l):l=[]:=by
 obtain _|⟨o,l⟩:=l;rfl;have d:=Yz.1 h.2.1.shape;have a:=h.2.1.an;rw[h.1]at a;omega
def Tiles.uh{ws d old}:∀ {a} {l j:Zk},Tiles ws old a l->Tiles d old a j->(∀i,i<I ws->d[i]?=ws[i]?)->I ws<=I d->
  (∀o∈l,∀q∈j,o.gone=xk->q.gone=xk->o.target=q.target->o.size=q.size/\o.Y=q.Y)->a<=I ws->∃r,j=l++r/\Tiles d old (I ws) r
 |a,[],j,h,k,_,_,_,p=>by
  have:I ws<=a:=h;grind
 |a,o::l,[],h,k,_,z,_,p=>by
  have H:=Yz.1 h.2.1.shape;have t:=h.2.1.an;have e:=h.1;have:I d<=a:=k;omega
 |a,o::l,q::j,h,k,A,z,G,p=>by
  let⟨B,n,C⟩:=h;let⟨k1,M,N⟩:=k;have H:=Yz.1 n.shape;have t:=n.an;let⟨w,g,D⟩:=n.word;let⟨u,f,F⟩:=M.word;rw[B]at g t;rw[k1]at f;simp[Zi1]at g f;rw[A a Z0,g]at f;have e:o=q:=by
   let⟨S,T,op,O,W⟩:=o;let⟨X,Z,Y,P,qt⟩:=q;cases O<;>cases P<;>simp at D F
   simp_all;simp_all;simp_all;simp_all
  subst e;let⟨r,Q,R⟩:=Tiles.uh C N A z (λx K y L=>G x (.tail _ K) y<|.tail _ L) Z0;simp_all
def Tiles.gh{ws old l a}(h:Tiles ws old 0 l)(h':Tiles ws old 0 a)(g:∀o∈l,∀q∈a,o.gone=xk->q.gone=xk->o.target=q.target->o.size=q.size/\o.Y=q.Y):a=l:=by
 let⟨r,d,f⟩:=h.uh h' Z1 Z0 g Z0;rw[d,f.iy,Zj4]
def Tiles.cq{ws a l}(h:Tiles ws xw a l):∀o∈l,o.gone=xw:=λo d=>by
 let⟨w,_,f⟩:=(h.ba o d).1.word;simp_all
def Tiles.ub{ws l f}(h:Tiles ws xw 0 l)(h':Tiles ws xw 0 f):=h.gh h' λo d q g a=>by rw[h.cq o d]at a;cases a
def B2(l:Zk):Nat:=(l.map λo=>if o.gone then 1+o.size.toNat else 0).sum
def Ei l:Y2 l+B2 l=WU l:=by
 induction l with
 |nil=>rfl
 |cons o l a=>
  simp[Y2,B2,WU,Wh]at a⊢;cases o.gone<;>simp<;>omega
def Zbe{L:Zk}{f}(h:∀o∈L,f o=0):(L.map f).sum=0:=by
 induction L with
 |nil=>rfl
 |cons x L a=>simp_all
section
variable {h:Hp}{p:Pts}
def Tld.mw(t:Tld h p){o}(d:o∈p.H):0<=o.ab/\o.ab<I h.H:=by
 let⟨a,n,m,f,_,_,g,_⟩:=t.ob (k:=1) Z0 d;grind [VH]
def Tiles.fi{ws old}:∀ {a} {l:Zk},Tiles ws old a l->l.Pairwise λx y=>x.ab<y.ab
 |_,[],_=>.nil
 |a,o::l,h=>by
  refine .cons (λy d=> ?_)<|Tiles.fi h.2.2;have:=(Tiles.ba h.2.2 y d).2;rw[h.1];omega
def Tiles.nil{old l}(h:Tiles [] old 0 l):=Tiles.iy (ws:=[]) h
def Gos.vd(t:Tld h p){w i j}(r:1<=i/\i<=4)(u:1<=j/\j<=4)(l:Gos h p w i j):w=0\/∃k,1<=k/\k<=4/\(k=i\/k=j)/\∃o∈p.at k,(adr w).2=0/\(adr w).1=ZC (Zv h) k+o.ab/\o.ab<YI (Zv h) k/\0<=o.ab:=by
 obtain rfl|⟨k,o,g,f,rfl⟩:=l;omega;have d:1<=k/\k<=4:=by obtain rfl|rfl:=g<;>assumption
 let⟨a,n,m,q,_,_,x,_⟩:=t.ob d f;exact .inr ⟨k,d.1,d.2,g,o,f,by rw[t.kx d f],by rw[t.kx d f],by grind [Tv],Z0⟩
end
end
section
section
variable {h:Hp}{p:Pts}
def qN(h:Hp){q:Nat}(a:q<4):Zz h ((q:Int)+1)=Zu h q:=by
 have:q=0\/q=1\/q=2\/q=3:=Z0;obtain rfl|rfl|rfl|rfl:=this<;>rfl
def Rt.gz(r:Rt h p){q:Nat}(a:q<4):obP h q=p.at ((q:Int)+1):=by
 unfold Vm.obP;rw[r.ul Z0]
def KP{f:Fo}:∀ {n q:Nat},f∈XN h n q->∃k o,q<=k/\k<q+n/\o∈obP h k/\f=WV h k o
 |0,q,a=>by simp[XN]at a
 |n+1,q,a=>by
  simp only[XN,Zib,Zi4]at a;obtain⟨o,g,rfl⟩|a:=a;exact⟨q,o,Z0,Z0,g,rfl⟩;obtain⟨k,o,j,l,d⟩:=KP a;exact⟨k,o,Z0,Z0,d⟩
def BR{k:Nat}{o:Ob}(a:o∈obP h k):∀ {n q:Nat},q<=k->k<q+n->WV h k o∈XN h n q
 |0,q,d,f=>Z0
 |n+1,q,d,f=>by
  simp only[XN,Zib,Zi4];by_cases e:k=q;subst e;exact .inl ⟨o,a,rfl⟩;exact .inr<|BR a Z0 Z0
def Z8L(s:Vw)(f:Fo):(s.put f).ns=s.ns++if f.ob.gone then []else [f]:=by
 unfold Vw.put;split<;>simp
def Hc:∀(l:List Fo) (s:Vw),(l.foldl Vw.put s).ns=s.ns++l.filter λf=> !f.ob.gone
 | [],s=>Z1
 |f::l,s=>by
  rw[ZjG,Hc l,Z8L];cases a:f.ob.gone<;>simp[a]
def E8(h:Hp):(XT h).ns=(XN h 4 0).filter λf=> !f.ob.gone:=by
 unfold XT;rw[Hc];rfl
def Ll(r:Rt h p){q:Nat}(a:q<4):I (obP h q)<=I (Zu h q):=by
 have t:=r.am ((q:Int)+1) Z0;have:=t.sum<|ZiZ _;rw[qN h a,<-r.gz a]at this;have d:I (obP h q)<=WU (obP h q):=by
  generalize obP h q=l;induction l with
  |nil=>simp
  |cons o l f=>simp only[WU,Zii,Zm0,ZiW]at f⊢;omega
 omega
def Rt.lh(r:Rt h p){q:Nat}(l:q<4):I (Zu h q)<=4096:=by
 obtain⟨a,d,_,_,_,⟨_,_,f,g⟩,⟨_,_,j,k⟩⟩:=XH.1 r.bc;simp only[Zv]at*;have:q=0\/q=1\/q=2\/q=3:=Z0;obtain rfl|rfl|rfl|rfl:=this;show I h.H<=4096;omega;show I h.aa<=4096;omega;show I h.ah<=4096;omega;show I h.ak<=4096;omega
def Rt.nr(r:Rt h p){q:Nat}(f:q<4){o:Ob}(d:o∈obP h q):∃a n m:Nat,o.ab=a/\o.size=n/\o.Y=m/\a+(n+1)<=I (Zu h q)/\n<=255/\m<=n:=by
 rw[r.gz f]at d;have:=r.toTld.ob Z0 d;rwa[qN h f]at this
def lsW(a:h.ok){q:Nat}(d:q<4):∀w∈Zu h q,ZB w:=by
 have:q=0\/q=1\/q=2\/q=3:=Z0;obtain rfl|rfl|rfl|rfl:=this;exact a.ex;exact a.eu;exact a.ls;exact a.lc
def AU(r:Rt h p){q:Nat}(f:q<4){o:Ob}(d:o∈obP h q):(WV h q o).sl.length=o.size.toNat:=by
 obtain⟨a,n,m,g,j,k,l,_⟩:=r.nr f d;simp only[WV,ZiX,ZjN];omega
def Rt.um(r:Rt h p)(x:h.ok):OfOk h:=by
 have F:I (XN h 4 0)<=16384:=by
  have A:=Ll r (q:=0) Z0;have j:=Ll r (q:=1) Z0;have l:=Ll r (q:=2) Z0;have t:=Ll r (q:=3) Z0;have G:=r.lh (q:=0) Z0;have k1:=r.lh (q:=1) Z0;have H:=r.lh (q:=2) Z0;have K:=r.lh (q:=3) Z0;simp only[XN,Zin,Zia,ZiQ,Zit,Nat.reduceAdd];omega
 refine⟨λq g=>⟨by have:=Ll r g;have:=r.lh g;omega,λo d=> ?_⟩,Z0,⟨?_,λf u=> ?_,by have:=r.fh;omega,x.df⟩⟩;obtain⟨a,n,m,j,l,t,y,_⟩:=r.nr g d;omega;rw[E8];have:=ZkR (λf:Fo=> !f.ob.gone)<|XN h 4 0;omega;rw[E8]at u;obtain⟨k,o,_,D,d,rfl⟩:=KP (ZkC.1 u).1;obtain⟨a,n,m,j,l,t,y,B,C⟩:=r.nr Z0 d;have e:=AU r Z0 d;refine⟨by show 0<=o.Y;omega,by show o.Y<=_;rw[e];omega,by rw[e];omega,λw z=>lsW x (q:=k) Z0 w ?_⟩;exact ZjY<|ZiH z
def ofOk(a:h.ok)(d:Yk h=xk):OfOk h:=by
 obtain⟨p,r⟩:=Rx.1 d;exact r.um a
end
def Z19{h:Hp}(a:h.ok):VC (YY Tryz.prog) 23 xw [ZE h]<|Jt h:=EA a<|ofOk a
end
section
structure VwI (d:List Fo) (s:Vw):Prop where
 ns:s.ns=d.filter λf=> !f.ob.gone
 n1:∀a j,Yb s.nm a=J j->∃i:Nat,j=i/\∃f,s.ns[i]?=J f/\f.ad=a
 n2:∀f∈s.ns,(Yb s.nm f.ad).isSome=xk
 t1:∀a t,Yb s.tm a=J t->∃f∈d,f.ob.gone=xk/\f.ad=a/\f.ob.target=t
 t2:∀f∈d,f.ob.gone=xk->(Yb s.tm f.ad).isSome=xk
def yR{α l k j}{x:α}(h:k=j\/(Yb l j).isSome=xk):(Yb (XY l k x) j).isSome=xk:=by
 rw[Jc];split;rfl;rename_i a;obtain h|h:=h;exact absurd h a;exact h
theorem VwI.put{d s f}(i:VwI d s):VwI (d++[f])<|s.put f:=by
 cases l:f.ob.gone;have e:s.put f= {s with ns:=s.ns++[f],nm:=XY s.nm f.ad (I s.ns)}:=by simp[Vw.put,l]
 rw[e];refine⟨by simp[i.ns,l],λa j o=> ?_,λx h=> ?_,λa t n=> ?_,λx h k=> ?_⟩;simp[Jc]at o;split at o;rename_i r;exact⟨I s.ns,by simpa using o.symm,f,Z1,r⟩;let⟨m,w,g,u,y⟩:=i.n1 a j o;exact⟨m,w,g,by simp[Zig (ZhH.1 u).1,u],y⟩;obtain h|h:=Zib.1 h;exact yR<|.inr<|i.n2 x h;rw[ZiN.1 h];exact yR Z0;let⟨g,p,q⟩:=i.t1 a t n;exact⟨g,by simp[p],q⟩;obtain h|h:=Zib.1 h;exact i.t2 x h k;rw[ZiN.1 h,l]at k;exact absurd k Z1;have e:s.put f= {s with tm:=XY s.tm f.ad f.ob.target}:=by simp[Vw.put,l]
 rw[e];refine⟨by simp[i.ns,l],i.n1,i.n2,λa t n=> ?_,λx h k=> ?_⟩;simp[Jc]at n;split at n;rename_i r;exact⟨f,Z1,l,r,by simpa using n⟩;let⟨g,p,q⟩:=i.t1 a t n;exact⟨g,by simp[p],q⟩;obtain h|h:=Zib.1 h;exact yR<|.inr<|i.t2 x h k;rw[ZiN.1 h];exact yR Z0
def VwI.sq:∀ {l d} {s:Vw},VwI d s->VwI (d++l) (l.foldl Vw.put s)
 | [],d,s,i=>by simpa using i
 |f::l,d,s,i=>by
  have:=VwI.sq (l:=l)<|i.put (f:=f);rwa[Ziw]at this
def JW h:VwI (XN h 4 0)<|XT h:=by
 have:VwI [] ⟨[],[],[]⟩:=⟨rfl,by simp[Yb],Z1,by simp[Yb],Z1⟩;exact this.sq (l:=XN h 4 0)
section
variable {h:Hp}{p:Pts}
def KO(r:Rt h p){q}(d:q<4){o}(f:o∈obP h q):(WV h q o).ad=ZC (Zv h) (q+1)+o.ab:=by
 let⟨a,n,m,g,j,k,l,_⟩:=r.nr d f;show(Y3 _ _ o.ab).1=_;rw[R0 r.bc Z0 (by rw[Tv Z0,qN h d];omega)]
def AV(r:Rt h p){f g}(u:f∈XN h 4 0)(w:g∈XN h 4 0)(e:f.ad=g.ad):f=g:=by
 obtain⟨k,o,_,z,l,rfl⟩:=KP u;obtain⟨j,q,_,y,n,rfl⟩:=KP w;rw[KO r Z0 l,KO r Z0 n]at e;have a:=l;have d:=n;rw[r.gz Z0]at a d;let⟨x,t⟩:=r.toTld.inj Z0 Z0 a d (by unfold ZX;omega);have:k=j:=Z0;subst this;rw[t]
def BS{f}:f∈(XT h).ns↔f∈XN h 4 0/\f.ob.gone=xw:=by
 rw[(JW h).ns];simp
def Rt.rk(r:Rt h p){f}(a:f∈XN h 4 0)(n:f.ob.gone=xw):∃i:Nat,Yb (XT h).nm f.ad=J (i:Int)/\(XT h).ns[i]?=J f:=by
 let⟨j,d⟩:=ZiK.1<|(JW h).n2 f<|BS.2 ⟨a,n⟩;obtain⟨i,rfl,g,k,l⟩:=(JW h).n1 _ _ d;have:=AV r (BS.1 ZgH).1 a l;subst this;exact⟨i,d,k⟩
def Rt.rj(r:Rt h p){f}(a:f∈XN h 4 0)(d:f.ob.gone=xw){w}(q:w≠0)(n:(adr w).1=f.ad):∃i:Nat,(XT h).dt w=i/\(XT h).ns[i]?=J f:=by
 let⟨i,k,l⟩:=r.rk a d;refine⟨i,?_,l⟩;have:Yb (XT h).tm f.ad=U:=by
  cases o:Yb (XT h).tm f.ad with
  |none=>rfl
  |some t=>
   let⟨g,k1,j,u,_⟩:=(JW h).t1 _ _ o;rw[AV r k1 a u,d]at j;exact absurd j Z1
 unfold Vw.dt;rw[ZhP q,n,this,Option.getD_none,k,Zih]
def Rt.rh(r:Rt h p){f g}(a:f∈XN h 4 0)(o:f.ob.gone=xk)(gf:g∈XN h 4 0)(j:g.ob.gone=xw)(q:f.ob.target=g.ad){w}(u:w≠0)(n:(adr w).1=f.ad):∃i:Nat,(XT h).dt w=i/\(XT h).ns[i]?=J g:=by
 let⟨i,k,l⟩:=r.rk gf j;refine⟨i,?_,l⟩;let⟨t,e⟩:=ZiK.1<|(JW h).t2 f a o;let⟨x,k1,z,y,d⟩:=(JW h).t1 _ _ e;rw[AV r k1 a y,q]at d;unfold Vw.dt;rw[ZhP u,n,e,Zih,<-d,k,Zih]
def Rt.ib(r:Rt h p){q}(g:q<2){o}(a:o∈obP h q):o.gone=xw:=by
 rw[r.gz Z0]at a;let⟨w,_,d⟩:=((r.am _ Z0).ba o a).1.word;cases f:o.gone;rfl;rw[f]at d;have:=d.1;simp at this;omega
def Rt.ou(r:Rt h p){w i j}(t:1<=i/\i<=4)(u:1<=j/\j<=4)(n:Gos h p w i j)(g:w≠0):∃(q:Nat) (o:Ob),q<4/\((q+1=i)\/(q+1=j))/\o∈obP h q/\w=2*(WV h q o).ad+1/\(adr w).1=(WV h q o).ad:=by
 obtain rfl|⟨k,o,l,f,rfl⟩:=n;exact absurd rfl g;obtain⟨q,rfl,d⟩:∃q:Nat,k=q+1/\q<4:=⟨(k-1).toNat,Z0,Z0⟩;have a:o∈obP h q:=by rw[r.gz d];exact f
 refine⟨q,o,d,l,a,?_,?_⟩;rw[KO r d a];rfl;rw[r.toTld.kx Z0 f,KO r d a]
def Rt.si(r:Rt h p){w i j}(B:1<=i/\i<=4)(C:1<=j/\j<=4)(H:Gos h p w i j)(k:w≠0):∃(n:Nat),(XT h).dt w=n/\n< (XT h).ns.length:=by
 let⟨q,o,F,L,u,_,x⟩:=r.ou B C H k;have y:WV h q o∈XN h 4 0:=BR u Z0 Z0;cases d:o.gone;let⟨n,l,z⟩:=r.rj y d k x;exact⟨n,l,ZgH⟩;have K:2<=q:=by
  by_cases D:q<2;rw[r.ib D u]at d;exact absurd d Z1;omega
 have f:=u;rw[r.gz F]at f;let⟨t,G,A,_⟩:=r.gone _ Z0 o f d;have a:t∈obP h 0:=by rw[r.gz Z0];exact G
 let⟨n,l,z⟩:=r.rh y d (g:=WV h 0 t) (BR a Z0 Z0) (r.ib Z0 a) (by rw[KO r Z0 a];exact A) k x;exact⟨n,l,ZgH⟩
def Rt.ri(r:Rt h p){w i j}(d:1<=i/\i<=4)(f:1<=j/\j<=4)(g:Gos h p w i j):Tg (XT h).ns.length ((XT h).dt w)=xk:=by
 by_cases a:w=0;subst a;simp[Vw.dt,Tg];omega;let⟨n,k,l⟩:=r.si d f g a;simp[Tg];omega
def Z8E{k i w}(d:Xx h p k i w):∃a b,(1<=a/\a<=4)/\(1<=b/\b<=4)/\Gos h p w a b:=by
 unfold Xx at d;split at d;exact⟨3,4,Z0,Z0,d⟩;split at d;obtain d|d:=d;exact⟨1,2,Z0,Z0,d⟩;exact⟨3,4,Z0,Z0,d⟩;exact⟨1,2,Z0,Z0,d⟩
def Rt.ma(r:Rt h p){d}(G:I d<=16)(K:∀w∈d,Gos h p w 1 2):Vm.right ((XT h).gr d)=xk:=by
 simp only[Vm.right,ZhJ,ZhV,Zid,Vw.gr,Zia,Zi4];refine⟨⟨G,?_⟩,?_⟩;rintro _ ⟨f,B,rfl⟩;let⟨t,C⟩:=BS.1 B;obtain⟨q,o,_,R,x,rfl⟩:=KP t;let⟨a,n,m,L,M,N,O,P,Q⟩:=r.nr Z0 x;have e:=AU r Z0 x;simp only[Rj,UO,ZhJ,ZhV,Zid,Zia,ZiX,ZjN,Zi4];refine⟨Z0,?_⟩;rintro _ ⟨w,y,rfl⟩;let⟨j,g⟩:=Zi9 y;have u:=(ZhH.1 g).1;rw[ZiX]at u;have H:(WV h q o).ob.Y=o.Y:=rfl;rw[ZiJ Z0]at g;have l:=x;rw[r.gz Z0]at l;have z:(Zz h<|q+1)[o.ab.toNat+1+j]?=J w:=by
  rw[qN h Z0];simp[WV]at g;rw[ZiJ Z0,Zil]at g;rw[<-g];congr 1;omega
 let⟨i,k,D,F,A⟩:=Z8E<|r.ptr _ Z0 o l C j Z0 w z;exact r.ri D F A;rintro _ ⟨w,y,rfl⟩;exact r.ri Z0 Z0<|K w y
def Lx{s q}:∀ {l},(∀o∈l,(WV h q o).sl.length=o.size.toNat/\0<=o.size/\o.Y<=o.size)->((((l.map<|WV h q).filter λf=> !f.ob.gone).map<|UO s).map Tl).sum=Y2 l
 | [],_=>rfl
 |o::l,g=>by
  have j:=Lx (s:=s) (l:=l) λx n=>g x (by simp[n]);let⟨p,r,t⟩:=g o Z1;have k:Y2 (o::l)=Wh o+Y2 l:=by simp[Y2]
  rw[k,Zii,List.filter_cons];have a:(WV h q o).ob=o:=rfl;cases d:o.gone;simp only[a,d,Bool.not_false,ZiC,Zii,Zm0,j];simp[Tl,UO,Wh,d,ZiF];omega;simp only[a,d,Zky,j,Wh,Zi2,ZiC,ZiF,Zit]
def Ej:∀ {l},(∀o∈l,o.gone=xw)->(∀o∈l,0<=o.size)->(Y2 l:Int)=WU l
 | [],_,_=>rfl
 |o::l,a,f=>by
  have h:=Ej (l:=l) ZgI ZgI;have d:Y2 (o::l)=Wh o+Y2 l:=by simp[Y2]
  have g:WU (o::l)=1+o.size.toNat+WU l:=by simp[WU]
  rw[d,Wh,a o Z1];simp;omega
def Rt.mb(r:Rt h p)d:(Wy ((XT h).gr d).nodes:Int)=I h.H+I h.aa+YK p:=by
 have g:∀q,q<4->∀o∈obP h q,(WV h q o).sl.length=o.size.toNat/\0<=o.size/\o.Y<=o.size:=λq l o f=>by
  let⟨a,n,m,A,B,C,D,F,G⟩:=r.nr l f;exact⟨AU r l f,Z0,Z0⟩
 have e:Wy ((XT h).gr d).nodes=Y2 (obP h 0)+(Y2 (obP h 1)+(Y2 (obP h 2)+Y2 (obP h 3))):=by
  unfold Wy Vw.gr;rw[E8 h];simp only[XN,List.filter_append,ZiR,Zl4,Zj4,ZiB,Zit,Nat.reduceAdd];rw[Lx<|g 0 Z0,Lx<|g 1 Z0,Lx<|g 2 Z0,Lx<|g 3 Z0]
 have x:=(r.am 1 Z0).sum Z0;have y:=(r.am 2 Z0).sum Z0;have j:obP h 0=p.at 1:=r.gz Z0;have k:obP h 1=p.at 2:=r.gz Z0;have t:obP h 2=p.at 3:=r.gz Z0;have u:obP h 3=p.at 4:=r.gz Z0;have z:=Ej (λo f=>r.ib (q:=0) Z0 f) ZgH;have w1:=Ej (λo f=>r.ib (q:=1) Z0 f) ZgH;rw[j]at z;rw[k]at w1;rw[e,j,k,t,u];have w:Zz h 1=h.H:=rfl;have p2:Zz h 2=h.aa:=rfl;rw[w]at x;rw[p2]at y;have:YK p=Y2 (p.at 3)+Y2 (p.at 4):=rfl;omega
end
end
def p9:Fn:=⟨6,[0,1,2,3,4,11],pQ [pR [(1,pS 0 10),pV 2<|pI 0],pC [pK 6 23 [.mm 1 0 10]] [(3,pM (.sz (.ext (.s 6) 0) 2) 2),pV 4<|.ext (.s 6) 1],pi 5 (pn (.s 4)<|pI 0)<|px [pV 2<|pI 0],pC [pK 7 24 [.mm 3 0 2]] [pV 2<|.s 7]] .ret,[(2,.v)]⟩
def c9:ZN (YY Tryz.prog) fresh sig [.fz] [] Tryz.f9=J p9:=Z2
theorem GU{P:Z6}{f:Zn}{fn:Func}{c:Code}(j:P.funcs[f]?=J fn)(h2:fn.body=J c)(k:TJ P c=xk):FitF (YY P) f:=⟨λg d h a=>by
 have e:(YY P).funcs[f]?=P.funcs[f]? :=rfl;rw[e,j]at h;cases h;rw[h2]at a;cases a;exact G5 k⟩
def Z73(l:Z9):NoM<|.sl<|l.map vi:=.sl _ λc a=>by
 have:flat (l.map vi)=l.map vi:=Um λx d=>Zhe;rw[this]at a;obtain⟨y,_,rfl⟩:=Zi4.1 a;exact .int _ _
def Mr(g:Gr):NoM<|Yx g:=(Mw g).m
def C8{x:V}(h:NoM x):∀y∈[x],NoM y:=λy a=>by rw[ZiN.1 a];exact h
def C9{x z:V}(h:NoM x)(k:NoM z):∀y∈[x,z],NoM y:=λy a=>by
 simp only[Zi6,Zjf,ZkH]at a;obtain rfl|rfl:=a;exact h;exact k
def up{f:Zn}{args:Zr}{r:V}(g:VC xP f xw args r)(a:∀x∈args,NoM x)(d:NoM r):VC (YY Tryz.prog) f xw args r:=IP QS g a d
def Z2k{g:Gr}(a:g.sm):VC (YY Tryz.prog) 24 xw [Yx g]<|vi<|words g:=up (Z2l a) (C8<|Mr g)<|.int _ _
def vg(h:Hp):Gr:=(XT h).gr h.E
def ofG(h:Hp):Gr×Int:=if Yk h=xk/\right (vg h)=xk then(VB<|vg h,0)else(UP,1)
def Z7q(h:Hp):Jt h=.al [Yx (ofG h).1,vi (ofG h).2]:=by
 unfold Jt ofG Vh vg;by_cases a:Yk h=xk;rw[ZhS a];by_cases d:right ((XT h).gr h.E)=xk;rw[ZhS d,ZhS ⟨a,d⟩];rw[ZhP d,ZhP λx=>d x.2];rw[ZhP a,ZhP λx=>a x.1]
def Z7p{h:Hp}(a:h.ok):(ofG h).1.sm:=by
 unfold ofG;split;rename_i k;exact Z39 (ofOk a k.1).sm.gr k.2;exact⟨by simp[UP],by simp[UP],by simp[UP]⟩
def Z18{h:Hp}(a:h.ok):VC (YY Tryz.prog) 23 xw [ZE h]<|.al [Yx (ofG h).1,vi (ofG h).2]:=by
 rw[<-Z7q];exact Z19 a
def liveR(h:Hp):Nat:=if(ofG h).2=0 then words (ofG h).1 else 0
instance fitLive:FitF (YY Tryz.prog) 9:=GU (P:=Tryz.prog) Tryz.func9 rfl Z2
def Z16{h:Hp}(d:h.ok):VC (YY Tryz.prog) 9 xw [ZE h]<|vi<|liveR h:=by
 refine ZT (P:=YY Tryz.prog) Tryz.func9 AW Z2 c9 rfl ?_;have k:=Z18 d;have f:=Z7p d;unfold liveR;generalize ofG h=g at*;obtain⟨g,e⟩:=g;simp only at k f⊢;simp[p9];refine Zy k Z1 ?_;by_cases a:e=0;simp[a];refine Zy (Z2k f) Z1 ?_;simp;simp[a]
end Vm
end
section

end
section
namespace Vm
open Go Go.Proofs
def Eb(g:Gr)(x:Int):Nat:=Tl<|(g.nodes[x.toNat]?).getD default
def PT(f:Int->Nat):∀ {L l:Z9},L.Nodup->(∀x∈L,x∈l)->(L.map f).sum<=(l.map f).sum
 | [],_,_,_=>ZiZ _
 |x::L,l,h,a=>by
  obtain⟨k,g⟩:=Zjt.1 h;have j:=((List.perm_cons_erase<|a x<|.head _).map f).sum_nat;have:=PT f g (l:=l.erase x) λy d=>(List.mem_erase_of_ne (by rintro rfl;exact k d)).2<|a y<|.tail _ d;simp only[Zii,Zm0]at j⊢;omega
def Zc1(l:List Nd):Wy l=((List.range<|I l).map λi:Nat=>Tl<|(l[i]?).getD default).sum:=by
 unfold Wy;congr 1;apply Zk0;intro i;rw[Zi8,Zi8];by_cases h:i<I l;simp[h];rw[ZiM Z0,ZiM ZgJ];rfl
def Z3c(G:Gr):Wy (VB G).nodes=((order G).map<|Eb G).sum:=by
 unfold Wy VB;simp only[Zkl];congr 1;refine ZjH λx _=> ?_;simp only[Function.comp,QZ,Tl,Eb,U1,Zia]
def Z3b{g:Gr}(a:right g=xk):words (VB g)<=words g:=by
 unfold words;rw[ZhS a];split;rw[Z3c,Zc1];have:=PT (Eb g) (l:=(List.range<|I g.nodes).map Int.ofNat) (qy a).1 λx d=>by
  have:=(qy a).2 x d;exact Zi4.2 ⟨x.toNat,ZgJ,ZgJ⟩
 rwa[Zkl]at this;omega
section
def CB{h:Hp}{k j:Int}(g:1<=k/\k<=4)(f:1<=j/\j<=4)(l:Z9):Zz (Xp h k l) j=if j=k then l else Zz h j:=by
 have a:k=1\/k=2\/k=3\/k=4:=Z0;have d:j=1\/j=2\/j=3\/j=4:=Z0;obtain rfl|rfl|rfl|rfl:=a<;>obtain rfl|rfl|rfl|rfl:=d<;>rfl
def ZQ(b:Bt)(i:Nat):Nd:=(b.g.nodes[i]?).getD default
def ZG(b:Bt)(i:Nat):Pl:=(b.aw[i]?).getD ⟨0,0⟩
def Y6(b:Bt)(i:Nat):Pl:=(b.ah[i]?).getD ⟨0,0⟩
def KS(n:Nd):Int:=(Xa ((I n.Y:Int)+I n.data)<|I n.Y).1
def XW(b:Bt)(p:Pl)(n:Nd)(tw:Int):List Int:=KS n::(XR b p p.ab.toNat n.Y tw++n.data)
def VU(b:Bt)(p:Pl)(n:Nd):List Int:=YD b.h p::List.replicate (ZM n-1) 0
def YS(b:Bt)(x:Rw)(k:Int)(i:Nat):List Int:=
 if(ZG b i).part=k then XW b (ZG b i) (ZQ b i)<|IntKind.i64.wrap<|x.bd+i
 else if(Y6 b i).part=k then(if(ZG b i).part=0 then XW b (Y6 b i) (ZQ b i) 0 else VU b (ZG b i)<|ZQ b i)
 else []
def YZ(b:Bt)(x:Rw)(k:Int)(i:Nat):List Int:=(List.range i).flatMap<|YS b x k
theorem Uh(b:Bt)(x:Rw)(k:Int)(i:Nat):YZ b x k (i+1)=YZ b x k i++YS b x k i:=by
 simp_all[YZ,Zk2,Zk7]
theorem UM(b:Bt)(p:Pl)(n:Nd)(tw:Int):I (XW b p n tw)=ZM n:=by
 grind [XW,XR,ZM]
theorem Q9(b:Bt)(p:Pl)(n:Nd):I (VU b p n)=ZM n:=by
 grind [VU,ZM]
structure Placed (b:Bt) (x:Rw):Prop where
 ok:BOk b
 aw:∀i,i<I b.g.nodes->(ZG b i=⟨0,0⟩/\∃k:Int,(k=3\/k=4)/\(Y6 b i).part=k)\/(((ZG b i).part=1\/(ZG b i).part=2)/\(ZG b i).ab=(I (YZ b x (ZG b i).part i):Nat))
 ah:∀i,i<I b.g.nodes->Y6 b i=⟨0,0⟩\/(((Y6 b i).part=3\/(Y6 b i).part=4)/\(Y6 b i).ab=(I (YZ b x (Y6 b i).part i):Nat)/\(ZG b i).part≠2)
 zero:∀k:Int,1<=k/\k<=4->Zz b.h k=List.replicate (I<|YZ b x k<|I b.g.nodes) 0
section
variable {b d:Bt}{x:Rw}
def Dc(a:Like b d)(p:Pl):YD d.h p=YD b.h p:=by
 unfold YD;rw[a.bc]
theorem ZaE(a:Like b d)(p:Pl)(to tw:Int):Vt d p to tw=Vt b p to tw:=by
 unfold Vt;rw[a.aw,a.ah,a.Z,Dc a,Dc a]
def IE(a:Like b d)(p:Pl)(n:Nd)(tw:Int):XW d p n tw=XW b p n tw:=by
 grind [XW,XR,ZaE]
def BB{p:Pl}{a m:Nat}{n:Nd}{tw:Int}{F:Z9}(k:Zz d.h p.part=F++List.replicate m 0)(g:I F=a)(f:p.ab.toNat=a)(j:ZM n<=m):Sp d p a n tw=F++XW d p n tw++List.replicate (m-ZM n) 0:=by
 simp_all[Sp,List.replicate,ZM,Zlw,Zjp,XW,KS]
def Zal{F:Z9}{a m s:Nat}{w:Int}(d:I F=a)(h:1<=s)(g:s<=m):(F++List.replicate m (0:Int)).set a w=F++(w::List.replicate (s-1) 0)++List.replicate (m-s) 0:=by
 rw[<-d,ZlL _ _<|ZhL _,ZjD];obtain⟨m,rfl⟩:∃f,m=f+1:=⟨m-1,Z0⟩;rw[List.replicate_succ,Zkf,Ziw];congr 1;simp;omega
def Kt(b:Bt)(x:Rw)(k:Int){i j:Nat}(h:i<=j):∃r,YZ b x k j=YZ b x k i++r:=by
 induction j with
 |zero=>simp_all
 |succ j d=>
  by_cases a:i=j+1;simp_all;grind [YS,Uh,List.append_assoc]
def A1(b:Bt)(x:Rw)(i:Nat)(d:Bt):Prop:=∀k:Int,1<=k/\k<=4->Zz d.h k=YZ b x k i++List.replicate (I (YZ b x k<|I b.g.nodes)- I (YZ b x k i)) 0
def Di(b:Bt)(x:Rw)(k:Int){i:Nat}(a:i<I b.g.nodes):I (YZ b x k i)+I (YS b x k i)<=I (YZ b x k<|I b.g.nodes):=by
 obtain⟨r,d⟩:=Kt b x k (Z0:i+1<=I b.g.nodes);grind [Uh]
def Z3P(C:Placed b x){i:Nat}(G:i<I b.g.nodes)(z:Like b d)(w:A1 b x i d):A1 b x (i+1)<|J6 x d i:=by
 have T:(d.g.nodes[i]?).getD default=ZQ b i:=by rw[z.g];rfl
 have X:(d.aw[i]?).getD ⟨0,0⟩=ZG b i:=by rw[z.aw];rfl
 have W:(d.ah[i]?).getD ⟨0,0⟩=Y6 b i:=by rw[z.ah];rfl
 unfold J6;simp only[T,X,W];have Z:=C.aw i G;have Q:=C.ah i G;have r:=λk=>Di b x k G;have j:∀k,YS b x k i=if(ZG b i).part=k then XW b (ZG b i) (ZQ b i) (IntKind.i64.wrap<|x.bd+i)else if(Y6 b i).part=k then(if(ZG b i).part=0 then XW b (Y6 b i) (ZQ b i) 0 else VU b (ZG b i)<|ZQ b i)else []:=λk=>rfl
 have R:=UM b (ZG b i) (ZQ b i)<|IntKind.i64.wrap<|x.bd+i;have l2:=UM b (Y6 b i) (ZQ b i) 0;have l3:=Q9 b (ZG b i)<|ZQ b i;have O:=IE z (ZG b i) (ZQ b i)<|IntKind.i64.wrap<|x.bd+i;have S:=IE z (Y6 b i) (ZQ b i) 0;generalize ZG b i=p at*;generalize Y6 b i=o at*;generalize ZQ b i=n at*;have N:1<=ZM n:=by unfold ZM;omega
 obtain⟨rfl,ko,a,P⟩|⟨hp,Y⟩:=Z
 ·
  have K:(o.part=3\/o.part=4)/\o.ab=(I (YZ b x o.part i):Nat):=by
   obtain rfl|⟨h1,h2,_⟩:=Q;grind;omega
  have D:UF x d i n ⟨0,0⟩=d:=by unfold UF;rw[ZhP Z1]
  have F:UH d n ⟨0,0⟩ o=Wl d o n 0:=by unfold UH;rw[ZhS ⟨Z0,rfl⟩]
  have A:∀q,Uj q ⟨0,0⟩ o=q:=λq=>by simp_all[Uj,ZhP]
  rw[D,F,A];intro k t;have l:YS b x o.part i=XW b o n 0:=by rw[j,ZhP ZgH,ZhS rfl,ZhS rfl]
  have y:=r o.part;rw[l,l2]at y;unfold Wl;simp only;rw[CB Z0 t];by_cases a:k=o.part;rw[ZhS a,a,BB (w o.part Z0) Z0 rfl Z0,Uh,l,S];grind;rw[ZhP a,Uh,j k,ZhP ZgH,ZhP (λh=>a h.symm),Zj4];exact w k t
 have L:¬p.part=0:=Z0;have D:UF x d i n p=Wl d p n (IntKind.i64.wrap<|x.bd+i):=by unfold UF;rw[ZhS Z0]
 have F:∀q,UH q n p o=q:=λq=>by simp_all[UH,ZhP]
 rw[D,F];have B:YS b x p.part i=XW b p n (IntKind.i64.wrap<|x.bd+i):=by rw[j,ZhS rfl]
 have M:=r p.part;rw[B,R]at M;have u:∀k:Int,1<=k/\k<=4->Zz (Wl d p n<|IntKind.i64.wrap<|x.bd+i).h k=if k=p.part then YZ b x p.part (i+1)++List.replicate (I (YZ b x p.part<|I b.g.nodes)- I (YZ b x p.part<|i+1)) 0 else Zz d.h k:=by
  intro k t;unfold Wl;simp only;rw[CB Z0 t];by_cases f:k=p.part;rw[ZhS f,ZhS f,BB (w p.part Z0) Z0 rfl Z0,Uh,B,O];grind;simp_all
 have H:YD (Wl d p n<|IntKind.i64.wrap<|x.bd+i).h p=YD b.h p:=by
  unfold YD;have:Zv (Wl d p n<|IntKind.i64.wrap<|x.bd+i).h=Zv b.h:=by
   rw[<-z.bc];unfold Wl;simp only;refine Ee ?_;rw[BB (w p.part Z0) Z0 rfl Z0,w p.part Z0,O];simp[R];omega
  rw[this]
 generalize Wl d p n (IntKind.i64.wrap<|x.bd+i)=q at*;obtain rfl|⟨a0,K,a1⟩:=Q;have A:Uj q p ⟨0,0⟩=q:=by simp_all[Uj,ZhP]
 rw[A];intro k t;rw[u k t];by_cases f:k=p.part;simp_all;rw[ZhP f,Uh,j k,ZhP (λh=>f h.symm),ZhP ZgH,Zj4];exact w k t;have A:Uj q p o= {q with h:=Xp q.h o.part ((Zz q.h o.part).set o.ab.toNat<|YD q.h p)}:=by unfold Uj;rw[ZhS ⟨Z0,Z0⟩]
 rw[A];have l:YS b x o.part i=VU b p n:=by rw[j,ZhP Z0,ZhS rfl,ZhP L]
 have y:=r o.part;rw[l,l3]at y;intro k t;simp only;rw[CB Z0 t,u o.part Z0,ZhP (Z0:¬o.part=p.part),w o.part Z0,H];by_cases a:k=o.part;rw[ZhS a,a,Zal Z0 N Z0,Uh,l];grind [VU];rw[ZhP a,u k t];by_cases f:k=p.part;simp_all;rw[ZhP f,Uh,j k,ZhP (λh=>f h.symm),ZhP (λh=>a h.symm),Zj4];exact w k t
def GK(a:Placed b x):∀i,i<=I b.g.nodes->A1 b x i (UG x b i)
 |0,_=>by
  intro k d;rw[UG,a.zero k d];simp[YZ]
 |i+1,f=>by
  rw[UG];exact Z3P a Z0 (L6 a.ok i Z0)<|GK a i Z0
def GJ(a:Placed b x){k:Int}(d:1<=k/\k<=4):Zz (YG x b) k=YZ b x k (I b.g.nodes):=by
 have h:=GK a (I b.g.nodes) (ZhL _) k d;rw[ZjD,List.replicate_zero,Zj4]at h;rw[<-h];rfl
end
end
section
def Qa(x:Rw)(c:Bool)(g:Gr)(i:Nat):Pl:=if V8 x i c=0 then⟨2,(Y5 x c g i).n2⟩else if V8 x i c=1 then⟨1,(Y5 x c g i).n1⟩else⟨0,0⟩
def Jw(x:Rw)(c:Bool)(g:Gr)(i:Nat):Pl:=if(decide (0<V8 x i c)&&c)=xk then(if WA x i then⟨4,(Y5 x c g i).n4⟩else⟨3,(Y5 x c g i).n3⟩)else⟨0,0⟩
def DH{x:Rw}{c:Bool}{g:Gr}(d:∀n∈g.nodes,ZM n<=9):∀j,j<=I g.nodes->∀i,i<j->(Y5 x c g j).aw[i]?=J (Qa x c g i)/\(Y5 x c g j).ah[i]?=J (Jw x c g i)
 |0,_,i,f=>Z0
 |j+1,l,i,f=>by
  obtain⟨_,_,h,k⟩:=zh (x:=x) (cycle:=c) d j Z0;rw[Y5];simp only[X6];by_cases a:i<j;have:=DH (x:=x) (c:=c) d j Z0 i a;rw[Zig Z0,Zig Z0];exact this;have:i=j:=Z0;subst this;rw[Zi3 Z0,Zi3 Z0,h,k,ZjD];exact⟨rfl,rfl⟩
def nk(s:St8)(k:Int):Nat:=if k=1 then s.n1 else if k=2 then s.n2 else if k=3 then s.n3 else s.n4
section
variable {x:Rw}{c:Bool}
def DP(x:Rw):∀n∈(ZY x.nodes x.E).nodes,ZM n<=9:=λn d=>by
 obtain⟨_,_,a⟩:=BX x.nodes x.E;have:=a n d;unfold ZM;omega
def RD(x:Rw)(c:Bool):(YR x c).g=ZY x.nodes x.E:=rfl
def KT{i:Nat}(a:i< (ZY x.nodes x.E).nodes.length):ZG (YR x c) i=Qa x c (ZY x.nodes x.E) i:=by
 unfold ZG;show((Y5 x c (ZY x.nodes x.E) (ZY x.nodes x.E).nodes.length).aw[i]?).getD _=_;rw[(DH (DP x) _ (ZhL _) i a).1];rfl
def qv{i:Nat}(a:i< (ZY x.nodes x.E).nodes.length):Y6 (YR x c) i=Jw x c (ZY x.nodes x.E) i:=by
 unfold Y6;show((Y5 x c (ZY x.nodes x.E) (ZY x.nodes x.E).nodes.length).ah[i]?).getD _=_;rw[(DH (DP x) _ (ZhL _) i a).2];rfl
def zV:∀i,i<=(ZY x.nodes x.E).nodes.length->∀k:Int,1<=k/\k<=4->I (YZ (YR x c) x k i)=nk (Y5 x c (ZY x.nodes x.E) i) k
 |0,_,k,f=>by simp[YZ,Y5,nk]
 |i+1,p,k,f=>by
  have o:=zV i Z0 k f;rw[Uh,Zin,o];have l:ZQ (YR x c) i=((ZY x.nodes x.E).nodes[i]?).getD default:=rfl;unfold YS;rw[KT (Z0:i< (ZY x.nodes x.E).nodes.length),qv (Z0:i< (ZY x.nodes x.E).nodes.length),l,Y5];generalize ((ZY x.nodes x.E).nodes[i]?).getD default=n;have a:k=1\/k=2\/k=3\/k=4:=Z0;unfold Qa Jw;generalize Y5 x c (ZY x.nodes x.E) i=s;obtain g|h|⟨j,rfl⟩:=R6 x i c;obtain rfl|rfl|rfl|rfl:=a<;>simp[nk,X6,g,UM];cases c<;>cases d:WA x i<;>obtain rfl|rfl|rfl|rfl:=a<;>simp[nk,X6,h,d,UM,Q9]
  cases d:WA x i<;>obtain rfl|rfl|rfl|rfl:=a<;>simp[nk,X6,j,d,UM,Q9]
def PO(hx:x.ok):Placed (YR x c) x:=by
 refine⟨(RE hx c).1,λi a=> ?_,λi a=> ?_,λk g=> ?_⟩;rw[RD]at a;rw[KT a,qv a];have d:=λk g=>zV (x:=x) (c:=c) i Z0 k g;unfold Qa Jw;obtain j|h|⟨f,rfl⟩:=R6 x i c;right;simp[j,d 2,nk];right;simp[h,d 1,nk];left;refine⟨by simp[f],?_⟩;cases n:WA x i;exact⟨3,.inl rfl,by simp[f]⟩;exact⟨4,.inr rfl,by simp[f]⟩;rw[RD]at a;rw[KT a,qv a];have d:=λk g=>zV (x:=x) (c:=c) i Z0 k g;unfold Qa Jw;obtain j|h|⟨f,rfl⟩:=R6 x i c;left;simp[j];cases c;left;simp;right;cases n:WA x i;simp[h,d 3,nk];simp[h,d 4,nk];right;cases n:WA x i;simp[f,d 3,nk];simp[f,d 4,nk];rw[RD,zV _ (ZhL _) k g];have l:k=1\/k=2\/k=3\/k=4:=Z0;obtain rfl|rfl|rfl|rfl:=l<;>rfl
end
end
section
def Pz(h:Hp){k:Int}(d:1<=k/\k<=4):YI (Zv h) k=I (Zz h k):=by
 have a:k=1\/k=2\/k=3\/k=4:=Z0;obtain rfl|rfl|rfl|rfl:=a<;>rfl
def Z06{s p:Int}(h:Yv s p=xk):ZR (Xa s p).1=(s,p,0):=by
 have a:=Yz.1 h;unfold Xa;rw[ZhS h];unfold ZR;grind
theorem Z5M(h:Hp)(p:Pl):U0 (YD h p)=xk:=by
 unfold YD U0;split;rfl;unfold Xr;split;rfl;rename_i a;unfold adr;grind
theorem Z5N(b:Bt)(p:Pl)(to tw:Int):U0 (Vt b p to tw)=xk:=by
 unfold Vt;split;rfl;grind [Z5M]
def SM{gone:Bool}{ptrs:Int}:∀ {l:Z9} {i:Nat},(∀(j:Nat) (w:Int),l[j]?=J w->(gone=xk->w=0)/\(((i+j:Nat):Int)<ptrs->U0 w=xk))->Xw l gone ptrs i=xk
 | [],_,_=>rfl
 |w::l,i,h=>by
  obtain⟨f,g⟩:=h 0 w rfl;have d:Xw l gone ptrs (i+1)=xk:=SM λj y a=>by
   have:=h (j+1) y a;grind
  rw[Xw,d];grind
theorem PP{b:Bt}{p:Pl}{n:Nd}{tw:Int}{F r:Z9}{old:Bool}(f:p.ab=(I F:Nat))(o:ZM n<=9):Stands (F++XW b p n tw++r) old ⟨p.ab,(I n.Y:Int)+I n.data,I n.Y,xw,0⟩:=by
 have a:Yv ((I n.Y:Int)+I n.data) (I n.Y)=xk:=by
  unfold ZM at o;exact Yz.2 Z0
 have d:(F++XW b p n tw++r)[I F]?=J (KS n):=by
  rw[Ziw,Zi3<|ZhL _,ZjD];rfl
 have t:=Z06 a;refine⟨ZgI,a,?_,?_,KS n,ZgI,?_⟩;grind [UM,ZM,List.length_append];simp only[f,Zi1];have e:((F++XW b p n tw++r).drop<|I F+1).take ((I n.Y:Int)+I n.data).toNat=XR b p p.ab.toNat n.Y tw++n.data:=by
  have k:((I n.Y:Int)+I n.data).toNat=I (XR b p p.ab.toNat n.Y tw++n.data):=by simp[XR];omega
  rw[k,Ziw,Zlw,Zjp Z0,ZjB,ZiB];have l:(XW b p n tw++r).drop 1=(XR b p p.ab.toNat n.Y tw++n.data)++r:=rfl;rw[l,Zlm]
 rw[e];refine SM λj w d=>⟨Z1,λg=> ?_⟩;have h:j<I n.Y:=ZhC;rw[Zig (by simp_all[XR])]at d;simp only[XR,Zi8,ZhI]at d;obtain⟨q,_,rfl⟩:=d;grind [Z5N];simp_all[Zi2,ZiF,Ft,KS,trivial]
def ZaZ{b:Bt}{p o:Pl}{n:Nd}{F r:Z9}(a:o.ab=(I F:Nat))(q:ZM n<=9)(l:(adr<|YD b.h p).2=0):Stands (F++VU b p n++r) xk ⟨o.ab,(I n.Y:Int)+I n.data,I n.Y,xk,(adr<|YD b.h p).1⟩:=by
 have d:Yv ((I n.Y:Int)+I n.data) (I n.Y)=xk:=by
  unfold ZM at q;exact Yz.2 Z0
 have f:(F++VU b p n++r)[I F]?=J (YD b.h p):=by
  rw[Ziw,Zi3<|ZhL _,ZjD];rfl
 refine⟨by show 0<=o.ab;omega,d,?_,?_,_,by rw[a];simpa using f,?_⟩;have:=Q9 b p n;unfold ZM at this;simp only[Zin,this,a];omega;simp only[a,Zi1];have e:((F++VU b p n++r).drop<|I F+1).take ((I n.Y:Int)+I n.data).toNat=List.replicate (ZM n-1) 0:=by
  have g:((I n.Y:Int)+I n.data).toNat=I (List.replicate (ZM n-1) (0:Int)):=by simp[ZM];omega
  rw[g,Ziw,Zlw,Zjp Z0,ZjB,ZiB];have k:(VU b p n++r).drop 1=List.replicate (ZM n-1) 0++r:=rfl;rw[k,Zlm]
 rw[e];refine SM λj w f=> ?_;have:=(List.mem_replicate.1<|ZhR f).2;subst this;exact⟨λ_=>rfl,λ_=>rfl⟩;simp only[ZiC];exact⟨trivial,l,trivial⟩
def Xd(b:Bt)(k:Int)(i:Nat):List Ob:=
 if(ZG b i).part=k then [⟨(ZG b i).ab,((ZQ b i).Y.length:Int)+(ZQ b i).data.length,(ZQ b i).Y.length,xw,0⟩]
 else if(Y6 b i).part=k then(if(ZG b i).part=0 then [⟨(Y6 b i).ab,((ZQ b i).Y.length:Int)+(ZQ b i).data.length,(ZQ b i).Y.length,xw,0⟩]
  else [⟨(Y6 b i).ab,((ZQ b i).Y.length:Int)+(ZQ b i).data.length,(ZQ b i).Y.length,xk,(adr<|YD b.h<|ZG b i).1⟩])
 else []
def obs(b:Bt)(k:Int):List Ob:=(List.range<|I b.g.nodes).flatMap<|Xd b k
section
variable {b:Bt}{x:Rw}
def Placed.sw(a:Placed b x)(d:∀n∈b.g.nodes,ZM n<=9){i:Nat}(f:i<I b.g.nodes):ZM (ZQ b i)<=9:=by
 simp_all[ZQ,ZhG,Zi5]
def Placed.len(a:Placed b x){k:Int}(d:1<=k/\k<=4):YI (Zv b.h) k=(I (YZ b x k<|I b.g.nodes):Nat):=by
 rw[Pz b.h d,a.zero k d];simp
def Placed.cp(a:Placed b x){i:Nat}(f:i<I b.g.nodes)(k:(ZG b i).part≠0):((ZG b i).part=1\/(ZG b i).part=2)/\(ZG b i).ab=(I (YZ b x (ZG b i).part i):Nat)/\(ZG b i).ab+ZM (ZQ b i)<=YI (Zv b.h) (ZG b i).part:=by
 obtain⟨h,_⟩|⟨j,d⟩:=a.aw i f;simp_all;refine⟨j,d,?_⟩;have:=Di b x (ZG b i).part f;rw[a.len Z0,d];have e:YS b x (ZG b i).part i=XW b (ZG b i) (ZQ b i) (IntKind.i64.wrap<|x.bd+i):=by unfold YS;rw[ZhS rfl]
 grind [UM]
def Placed.de(a:Placed b x){i:Nat}(d:i<I b.g.nodes)(o:(Y6 b i).part≠0):((Y6 b i).part=3\/(Y6 b i).part=4)/\(Y6 b i).ab=(I (YZ b x (Y6 b i).part i):Nat)/\(ZG b i).part≠2/\(Y6 b i).ab+ZM (ZQ b i)<=YI (Zv b.h) (Y6 b i).part:=by
 obtain h|⟨k,f,l⟩:=a.ah i d;simp_all;refine⟨k,f,l,?_⟩;have:=Di b x (Y6 b i).part d;rw[a.len Z0,f];have n:(ZG b i).part=0\/(ZG b i).part=1:=by
  by_cases j:(ZG b i).part=0;omega;have:=(a.cp d j).1;omega
 have e:I (YS b x (Y6 b i).part i)=ZM (ZQ b i):=by
  unfold YS;rw[ZhP Z0,ZhS rfl];split;grind [UM];exact Q9 _ _ _
 omega
def Placed.fj(a:Placed b x)(f:ZI (Zv b.h)=xk){i:Nat}(j:i<I b.g.nodes)(d:(ZG b i).part≠0):YD b.h (ZG b i)=ZX (Zv b.h) (ZG b i).part (ZG b i).ab:=by
 obtain⟨k,l,n⟩:=a.cp j d;have o:1<=ZM (ZQ b i):=by grind [ZM]
 unfold YD;rw[ZhP d,R0 f Z0 ⟨Z0,Z0⟩];have:=Va f (ZG b i).part;unfold Xr ZX;grind
def Placed.py(a:Placed b x)(f:ZI (Zv b.h)=xk){i:Nat}(j:i<I b.g.nodes)(d:(Y6 b i).part≠0):YD b.h (Y6 b i)=ZX (Zv b.h) (Y6 b i).part (Y6 b i).ab:=by
 obtain⟨k,l,_,n⟩:=a.de j d;have o:1<=ZM (ZQ b i):=by grind [ZM]
 unfold YD;rw[ZhP d,R0 f Z0 ⟨Z0,Z0⟩];have:=Va f (Y6 b i).part;unfold Xr ZX;grind
def MC(a:Placed b x)(z:ZI (Zv b.h)=xk)(C:∀n∈b.g.nodes,ZM n<=9){k:Int}(F:1<=k/\k<=4):∀(m i:Nat),i+m=I b.g.nodes->Tiles (YZ b x k<|I b.g.nodes) (decide (2<k)) (I<|YZ b x k i) ((List.range' i m).flatMap<|Xd b k)
 |0,i,D=>by
  have:i=I b.g.nodes:=Z0;subst this;exact ZhL _
 |m+1,i,D=>by
  have t:=MC a z C F m (i+1) Z0;have d:i<I b.g.nodes:=Z0;have w:=a.sw C d;obtain⟨r,A⟩:=Kt b x k (Z0:i+1<=I b.g.nodes);rw[List.range'_succ,Zlq];have B:=Uh b x k i;by_cases f:(ZG b i).part=k;have u:YS b x k i=XW b (ZG b i) (ZQ b i) (IntKind.i64.wrap<|x.bd+i):=by unfold YS;rw[ZhS f]
  have q:Xd b k i=[⟨(ZG b i).ab,((ZQ b i).Y.length:Int)+(ZQ b i).data.length,(ZQ b i).Y.length,xw,0⟩]:=by unfold Xd;rw[ZhS f]
  obtain⟨_,j,_⟩:=a.cp d Z0;rw[f]at j;rw[q];refine⟨j,?_,?_⟩;grind [PP];rw[B,u,Zin,UM]at t;have:(((ZQ b i).Y.length:Int)+(ZQ b i).data.length).toNat=ZM (ZQ b i) -1:=by grind [ZM]
  simp only[this];rw[show I (YZ b x k i)+1+(ZM (ZQ b i) -1)=I (YZ b x k i)+ZM (ZQ b i)by grind [ZM]];exact t;by_cases l:(Y6 b i).part=k;obtain⟨G,j,H,K⟩:=a.de d Z0;have y:2<k:=Z0;rw[l]at j;have p:I (YZ b x k<|i+1)=I (YZ b x k i)+1+(((ZQ b i).Y.length:Int)+(ZQ b i).data.length).toNat:=by
   have e:I (YS b x k i)=ZM (ZQ b i):=by
    unfold YS;rw[ZhP f,ZhS l];split;grind [UM];exact Q9 _ _ _
   rw[B,Zin,e];unfold ZM;omega
  rw[p]at t;by_cases o:(ZG b i).part=0;have u:YS b x k i=XW b (Y6 b i) (ZQ b i) 0:=by unfold YS;rw[ZhP f,ZhS l,ZhS o]
  have q:Xd b k i=[⟨(Y6 b i).ab,((ZQ b i).Y.length:Int)+(ZQ b i).data.length,(ZQ b i).Y.length,xw,0⟩]:=by unfold Xd;rw[ZhP f,ZhS l,ZhS o]
  rw[q];refine⟨j,?_,t⟩;grind [PP];have u:YS b x k i=VU b (ZG b i) (ZQ b i):=by unfold YS;rw[ZhP f,ZhS l,ZhP o]
  have q:Xd b k i=[⟨(Y6 b i).ab,((ZQ b i).Y.length:Int)+(ZQ b i).data.length,(ZQ b i).Y.length,xk,(adr<|YD b.h<|ZG b i).1⟩]:=by unfold Xd;rw[ZhP f,ZhS l,ZhP o]
  rw[q];refine⟨j,?_,t⟩;rw[A,B,u,Zlp y];refine ZaZ j w ?_;obtain⟨L,M,_⟩:=a.cp d o;rw[a.fj z d o,UB z Z0];simp_all[YS,ZhP,Xd,ZiB,Zj4]
def Z7m(a:Placed b x)(j:ZI (Zv b.h)=xk)(f:∀n∈b.g.nodes,ZM n<=9){k:Int}(d:1<=k/\k<=4):Tiles (Zz (YG x b) k) (decide (2<k)) 0<|obs b k:=by
 rw[GJ a d];have:=MC a j f d (I b.g.nodes) 0 Z0;unfold obs;rw[List.range_eq_range'];exact this
def Jo{k:Int}{o:Ob}:o∈obs b k↔ ∃i,i<I b.g.nodes/\o∈Xd b k i:=by
 grind [obs]
end
end
section
structure Made (b:Bt) (x:Rw):Prop where
 pl:Placed b x
 bc:ZI (Zv b.h)=xk
 sw:∀n∈b.g.nodes,ZM n<=9
 kz:b.h.M=xk->∀i,i<I b.g.nodes->(ZG b i).part=1->(Y6 b i).part≠0
 Z:0<=b.h.Z/\b.h.Z<=I b.h.H/\(if b.h.M then b.h.Z<(I b.h.H) else b.h.Z=I b.h.H/\b.h.ah=[]/\b.h.ak=[])
 room:(I b.h.H:Int)+I b.h.aa+((Y2 (obs b 3)+Y2 (obs b 4):Nat):Int)<=b.h.cap
 ld:Yf b.h.Z
def Qu(b:Bt):Pts:=⟨obs b 1,obs b 2,obs b 3,obs b 4⟩
theorem D2(b:Bt){k:Int}(d:1<=k/\k<=4):(Qu b).at k=obs b k:=by
 have a:k=1\/k=2\/k=3\/k=4:=Z0;obtain rfl|rfl|rfl|rfl:=a<;>rfl
section
variable {b:Bt}{x:Rw}
def Made.fill(m:Made b x):(YG x b).ok/\Zv (YG x b)=Zv b.h/\(YG x b).Z=b.h.Z/\(YG x b).M=b.h.M:=AH m.pl.ok m.ld
def Made.am(m:Made b x){k:Int}(a:1<=k/\k<=4):Tiles (Zz (YG x b) k) (decide (2<k)) 0<|obs b k:=Z7m m.pl m.bc m.sw a
def Made.start(m:Made b x){k a:Int}(f:1<=k/\k<=4)(d:0<=a/\a<YI (Zv b.h) k):YW (YG x b) k a=ZC (Zv b.h) k+a:=by
 unfold YW;rw[m.fill.2.1,R0 m.bc f d]
def jC(n:Nd):1<=ZM n:=by grind [ZM]
def Made.lp(m:Made b x){i:Nat}(a:i<I b.g.nodes)(d:(ZG b i).part≠0):∃o∈obs b (ZG b i).part,o.ab=(ZG b i).ab/\o.size=((ZQ b i).Y.length:Int)+(ZQ b i).data.length/\o.Y=(ZQ b i).Y.length/\o.gone=xw:=
 ⟨_,Jo.2 ⟨i,a,by unfold Xd;rw[ZhS rfl];exact .head _⟩,rfl,rfl,rfl,rfl⟩
def Made.sd(m:Made b x){i:Nat}(f:i<I b.g.nodes)(h:(Y6 b i).part≠0):∃o∈obs b (Y6 b i).part,o.ab=(Y6 b i).ab:=by
 obtain⟨j,k,l,n⟩:=m.pl.de f h;have a:¬(ZG b i).part=(Y6 b i).part:=by
  by_cases d:(ZG b i).part=0;omega;have:=(m.pl.cp f d).1;omega
 by_cases d:(ZG b i).part=0;exact⟨_,Jo.2 ⟨i,f,by unfold Xd;rw[ZhP a,ZhS rfl,ZhS d];exact .head _⟩,rfl⟩;exact⟨_,Jo.2 ⟨i,f,by unfold Xd;rw[ZhP a,ZhS rfl,ZhP d];exact .head _⟩,rfl⟩
def Made.lz(m:Made b x){i:Nat}(d:i<I b.g.nodes):XA (YG x b) (Qu b) (YD b.h<|ZG b i) 1 2=xk:=by
 by_cases a:(ZG b i).part=0;simp_all[YD,ZG,ZhS,XA];obtain⟨k,l,n⟩:=m.pl.cp d a;have p:=jC<|ZQ b i;obtain⟨o,j,f,_⟩:=m.lp d a;rw[m.pl.fj m.bc d a];unfold XA;rw[UB m.bc Z0];have:(YA (YG x b) (ZG b i).part (obs b (ZG b i).part)<|ZC (Zv b.h) (ZG b i).part+(ZG b i).ab).isSome=xk:=by
  refine Ae.2 ⟨o,j,?_⟩;rw[f,m.start Z0 ⟨Z0,Z0⟩]
 grind [D2]
def Made.sk(m:Made b x){i:Nat}(d:i<I b.g.nodes):XA (YG x b) (Qu b) (YD b.h<|Y6 b i) 3 4=xk:=by
 by_cases a:(Y6 b i).part=0;simp_all[YD,Y6,ZhS,XA];obtain⟨k,l,_,n⟩:=m.pl.de d a;have p:=jC<|ZQ b i;obtain⟨o,j,f⟩:=m.sd d a;rw[m.pl.py m.bc d a];unfold XA;rw[UB m.bc Z0];have:(YA (YG x b) (Y6 b i).part (obs b (Y6 b i).part)<|ZC (Zv b.h) (Y6 b i).part+(Y6 b i).ab).isSome=xk:=by
  refine Ae.2 ⟨o,j,?_⟩;rw[f,m.start Z0 ⟨Z0,Z0⟩]
 grind [D2]
def Made.dm(m:Made b x){k:Int}(j:1<=k/\k<=4){o q:Ob}(f:o∈obs b k)(g:q∈obs b k)(h:q.ab=o.ab):q=o:=by
 have d:=m.am j;obtain a|a|a:=d.apart q g o f;exact a;have:=Yz.1 (d.ba q g).1.shape;omega;have:=Yz.1 (d.ba o f).1.shape;omega
def Made.km(m:Made b x){k:Int}(d:1<=k/\k<=4){o:Ob}(f:o∈obs b k):0<=o.ab/\o.ab<YI (Zv b.h) k:=by
 have a:=((m.am d).ba o f).1;have g:=Yz.1 a.shape;have j:=a.an;have l:=a.gl;have:YI (Zv b.h) k=I (Zz (YG x b) k):=by rw[<-m.fill.2.1,Pz _ d]
 omega
def Made.find(m:Made b x){k:Int}(a:1<=k/\k<=4){o:Ob}(d:o∈obs b k):YA (YG x b) k (obs b k) (ZC (Zv b.h) k+o.ab)=J o:=by
 rw[<-m.start a (m.km a d)];refine FS d λq f e=>m.dm a d f ?_;rw[m.start a<|m.km a d,m.start a<|m.km a f]at e;omega
def Z6u{k:Int}{i:Nat}{o:Ob}(h:o∈Xd b k i)(a:o.gone=xk):¬(ZG b i).part=k/\(Y6 b i).part=k/\¬(ZG b i).part=0/\o=⟨(Y6 b i).ab,((ZQ b i).Y.length:Int)+(ZQ b i).data.length,(ZQ b i).Y.length,xk,(adr<|YD b.h<|ZG b i).1⟩:=by
 grind [Xd]
def Made.gone(m:Made b x){k:Int}(y:3<=k/\k<=4):QQ (YG x b) (obs b 1)<|obs b k:=by
 intro o n j;obtain⟨i,d,g⟩:=Jo.1 n;obtain⟨u,w,f,rfl⟩:=Z6u g j;obtain⟨z,A,B⟩:=m.pl.cp d f;have l:=(m.pl.de d Z0).2.2.1;have a:(ZG b i).part=1:=Z0;obtain⟨q,h,p,r,t,_⟩:=m.lp d f;rw[a]at h;refine⟨q,?_,r,t⟩;simp only;rw[m.pl.fj m.bc d f,UB m.bc Z0,a,<-p];exact m.find Z0 h
def Made.fa(m:Made b x):XF (YG x b)=J (Qu b):=
 NV (m.am (k:=1) Z0) (m.am (k:=2) Z0) (m.am (k:=3) Z0) (m.am (k:=4) Z0) (m.gone Z0) (m.gone Z0)
def PY(l r:Zk)(a:Int):XI (l++r) a=XI l a+XI r a:=by simp[XI]
def t5(b:Bt)(k:Int)(j:Nat)(a:Int):XI (Xd b k j) a=if ¬(ZG b j).part=k/\(Y6 b j).part=k/\¬(ZG b j).part=0/\(adr<|YD b.h<|ZG b j).1=a then 1 else 0:=by
 unfold Xd;by_cases d:(ZG b j).part=k;simp_all[ZhS,ZhP,XI];rw[ZhP d];by_cases f:(Y6 b j).part=k;rw[ZhS f];by_cases g:(ZG b j).part=0;simp_all[ZhS,ZhP,XI];rw[ZhP g];by_cases l:(adr<|YD b.h<|ZG b j).1=a;simp_all[ZhS,XI];simp_all[ZhP,XI];simp_all[ZhP,XI]
def Made.ga(m:Made b x)(hc:b.h.M=xk){i:Nat}(n:i<I b.g.nodes)(q:(ZG b i).part=1):Tx (Qu b) (ZC (Zv b.h) 1+(ZG b i).ab)=1:=by
 have key:∀j,j<=I b.g.nodes->XI ((List.range j).flatMap<|Xd b 3) (ZC (Zv b.h) 1+(ZG b i).ab)+XI ((List.range j).flatMap<|Xd b 4) (ZC (Zv b.h) 1+(ZG b i).ab)=if i<j then 1 else 0:=by
  intro j;induction j with
  |zero=>grind [XI]
  |succ j t=>
   intro G;have t:=t Z0;have a:j<I b.g.nodes:=Z0;rw[Zk2,Zk7,Zk7,PY,PY];simp only[Zlq,List.flatMap_nil,Zj4];have p:XI (Xd b 3 j) (ZC (Zv b.h) 1+(ZG b i).ab)+XI (Xd b 4 j) (ZC (Zv b.h) 1+(ZG b i).ab)=if j=i then 1 else 0:=by
    rw[t5,t5];by_cases l:(ZG b j).part=0;grind;obtain⟨H,C,K⟩:=m.pl.cp a l;by_cases d:(ZG b j).part=1;have y:=m.kz hc j a d;obtain⟨v1,_⟩:=m.pl.de a y;have B:(adr<|YD b.h<|ZG b j).1=ZC (Zv b.h) 1+(ZG b j).ab:=by rw[m.pl.fj m.bc a l,UB m.bc Z0,d]
    have heq:(ZC (Zv b.h) 1+(ZG b j).ab=ZC (Zv b.h) 1+(ZG b i).ab)↔j=i:=by
     constructor;intro e;obtain⟨w1,w2,w3⟩:=m.pl.cp n Z0;rw[d]at C;rw[q]at w2;have z:=jC<|ZQ b i;have A:=jC<|ZQ b j;have D:I (YS b x 1 i)=ZM (ZQ b i):=by unfold YS;rw[ZhS q];exact UM _ _ _ _
     have F:I (YS b x 1 j)=ZM (ZQ b j):=by unfold YS;rw[ZhS d];exact UM _ _ _ _
     by_cases w:j<i;obtain⟨r,k⟩:=Kt b x 1 (Z0:j+1<=i);rw[Uh]at k;grind;by_cases u:i<j;obtain⟨r,k⟩:=Kt b x 1 (Z0:i+1<=j);rw[Uh]at k;grind;omega;simp_all
    grind;have f:(ZG b j).part=2:=Z0;have o:(Y6 b j).part=0:=by
     by_cases h:(Y6 b j).part=0;exact h;exact absurd f (m.pl.de a h).2.2.1
    grind
   grind
 have:=key (I b.g.nodes)<|ZhL _;rw[ZhS n]at this;exact this
end
end
section
section
variable {b:Bt}{x:Rw}
def Made.word(m:Made b x){k:Int}(a:1<=k/\k<=4){i t:Nat}(d:i<I b.g.nodes)(h:t< I (YS b x k i)):(Zz (YG x b) k)[I (YZ b x k i)+t]?=(YS b x k i)[t]? :=by
 rw[GJ m.pl a];obtain⟨r,f⟩:=Kt b x k (Z0:i+1<=I b.g.nodes);simp_all[Uh,Ziw,Zi3,ZjB,Zig]
def IF{p:Pl}{n:Nd}{tw:Int}{j:Nat}(a:j<I n.Y):∃q∈n.Y,(XW b p n tw)[1+j]?=J (Vt b ⟨p.part,((p.ab.toNat+1+j:Nat):Int)⟩ q<|IntKind.i64.wrap<|tw+j):=by
 refine⟨n.Y[j],Zi5 a,?_⟩;simp_all[XW,ZkT,Zk8,Zig,XR]
theorem B3(h:Hp)(p:Pts)(k j:Int):XA h p 0 k j=xk:=Zhw
def Made.na(m:Made b x)(r:∀n∈b.g.nodes,∀q∈n.Y,-1<=q/\q< (I b.g.nodes:Int)){i:Nat}(y:i<I b.g.nodes){k:Int}{p:Pl}(o:p.part=k){a:Nat}{d tw:Int}(f:d∈(ZQ b i).Y)(u:((Zz (YG x b) k)[a]?).getD 0=Vt b ⟨p.part,(a:Int)⟩ d tw):Uv (YG x b) (Qu b) k a=xk:=by
 have w:=r (ZQ b i) (by simp_all[ZQ,ZhG,Zi5]) d f;unfold Uv;simp only[u];unfold Vt;rw[o];by_cases l:d<0;simp_all[ZhS,B3];obtain⟨t,rfl⟩:=ZhW (Z0:0<=d);have j:t<I b.g.nodes:=Z0;rw[ZhP l];have g1:=m.lz (i:=t) j;have g2:=m.sk (i:=t) j;unfold ZG at g1;unfold Y6 at g2;simp only[Zi1];by_cases h:2<k;simp_all;rw[ZhP h,ZhP h];rw[m.fill.2.2.1];grind
def Made.Y(m:Made b x)(C:∀n∈b.g.nodes,∀q∈n.Y,-1<=q/\q< (I b.g.nodes:Int)){k:Int}(u:1<=k/\k<=4):WI (YG x b) (Qu b) k=xk:=by
 unfold WI;rw[D2 b u,ZhV];intro o D;obtain⟨i,d,a⟩:=Jo.1 D;unfold qn;rw[ZhV];intro j h;rw[Zkq]at h;unfold Xd at a;split at a;rename_i f;simp at a;subst a;simp only[Zi1]at h;obtain⟨_,B,_⟩:=m.pl.cp d Z0;rw[f]at B;have r:YS b x k i=XW b (ZG b i) (ZQ b i) (IntKind.i64.wrap<|x.bd+i):=by unfold YS;rw[ZhS f]
 obtain⟨q,z,A⟩:=IF (b:=b) (p:=ZG b i) (tw:=IntKind.i64.wrap<|x.bd+i) h;have w:=m.word u d (t:=1+j) ZgH;rw[r,A]at w;simp only;refine m.na C d f (tw:=IntKind.i64.wrap<|IntKind.i64.wrap (x.bd+i)+j) z ?_;grind;rename_i f;split at a;rename_i l;obtain⟨_,B,_⟩:=m.pl.de d Z0;rw[l]at B;split at a;rename_i y;simp at a;subst a;simp only[Zi1]at h;have r:YS b x k i=XW b (Y6 b i) (ZQ b i) 0:=by unfold YS;rw[ZhP f,ZhS l,ZhS y]
 obtain⟨q,z,A⟩:=IF (b:=b) (p:=Y6 b i) (tw:=0) h;have w:=m.word u d (t:=1+j) ZgH;rw[r,A]at w;simp only;refine m.na C d l (tw:=IntKind.i64.wrap<|0+j) z ?_;grind;rename_i y;simp at a;subst a;simp only[Zi1]at h;have r:YS b x k i=VU b (ZG b i) (ZQ b i):=by unfold YS;rw[ZhP f,ZhS l,ZhP y]
 have w:=m.word u d (t:=1+j) (by grind [Q9,ZM]);have F:(VU b (ZG b i)<|ZQ b i)[1+j]?=J 0:=by
  unfold VU;rw[ZkT 1 j,Zk8,ZkB,ZhS (by grind [ZM])]
 grind [Uv,Int.toNat_natCast,YZ,B3];grind
theorem Made.right(m:Made b x)(z:∀n∈b.g.nodes,∀q∈n.Y,-1<=q/\q< (I b.g.nodes:Int)):Yk (YG x b)=xk:=by
 have j:=m.fill.2.1;have a:(YG x b).H.length=I b.h.H:=by have:=ZiP Ly.H j;simp only[Zv]at this;omega
 have d:(YG x b).aa.length=I b.h.aa:=by have:=ZiP Ly.aa j;simp only[Zv]at this;omega
 have u:(YG x b).ah.length=I b.h.ah:=by have:=ZiP Ly.ah j;simp only[Zv]at this;omega
 have p:(YG x b).ak.length=I b.h.ak:=by have:=ZiP Ly.ak j;simp only[Zv]at this;omega
 have l:(YG x b).cap=b.h.cap:=ZiP Ly.cap j;refine OX ?_ m.fa ?_;unfold TS;have O:=m.Z;have y:=m.pl.ok.rl;have M:(YG x b).E.length<=5:=by simp only[YG,Zia];exact y
 rw[j,m.bc,m.fill.2.2.1,m.fill.2.2.2,a,u,p];grind;unfold SI;simp only[ZhJ,Zid];refine⟨⟨⟨⟨⟨⟨?_,?_⟩,m.Y z Z0⟩,m.Y z Z0⟩,m.Y z Z0⟩,m.Y z Z0⟩,?_⟩;rw[m.fill.2.2.2];cases K:b.h.M;rfl;simp only[Zky,ZkW,ZhV];intro o G;obtain⟨i,F,f⟩:=Jo.1 G;have D:(ZG b i).part=1/\o.ab=(ZG b i).ab:=by
  unfold Xd at f;split at f;simp_all;split at f;rename_i N;have:=(m.pl.de F Z0).1;omega;grind
 have A:=m.km (k:=1) Z0 G;unfold RF;rw[m.start Z0 A,D.2,Zid];exact m.ga K F D.1;rw[ZhV];intro w H;simp only[YG,Zi4]at H;obtain⟨r,L,rfl⟩:=H;have y:=m.pl.ok.uv r L;by_cases C:0<=r;rw[ZhS C];have B:=L6 (x:=x) m.pl.ok (I b.g.nodes)<|ZhL _;rw[Dc B];obtain⟨t,rfl⟩:=ZhW C;exact m.lz (i:=t) Z0;simp_all[ZhP,B3];rw[a,d,l];exact m.room
end
end
section
def Z0B(l r:Zk):Y2 (l++r)=Y2 l+Y2 r:=by simp[Y2]
section
variable {x:Rw}{c:Bool}
def Zc3{b:Bt}(f:Placed b x){i:Nat}(p:i<I b.g.nodes):Y2 (Xd b 3 i)+Y2 (Xd b 4 i)=if(ZG b i).part=0 then ZM (ZQ b i)else 0:=by
 have q:((1:Nat)+(((ZQ b i).Y.length:Int)+(ZQ b i).data.length).toNat)=ZM (ZQ b i):=by unfold ZM;omega
 obtain⟨l,k,a,d⟩|⟨l,_⟩:=f.aw i p;have j:(ZG b i).part=0:=by rw[l]
 rw[ZhS j];obtain rfl|rfl:=a<;>simp[Xd,j,d,Y2,Wh,q];have h:¬(ZG b i).part=0:=Z0;have n:¬(ZG b i).part=3:=Z0;have o:¬(ZG b i).part=4:=Z0;have:∀k:Int,¬(ZG b i).part=k->Y2 (Xd b k i)=0:=λk a=>by
  unfold Xd;rw[ZhP a,ZhP h];split<;>simp[Y2,Wh]
 rw[ZhP h,this 3 n,this 4 o]
def Z0G(hx:x.ok):∀j,j<=(ZY x.nodes x.E).nodes.length->Y2 ((List.range j).flatMap<|Xd (YR x c) 3)+Y2 ((List.range j).flatMap<|Xd (YR x c) 4)=(Y5 x c (ZY x.nodes x.E) j).wt
 |0,_=>rfl
 |j+1,g=>by
  have h:=Z0G hx j Z0;have a:=Zc3 (PO (c:=c) hx) (i:=j) (by rw[RD];omega);rw[KT Z0]at a;have f:ZQ (YR x c) j=((ZY x.nodes x.E).nodes[j]?).getD default:=rfl;rw[f]at a;rw[Zk2,Zk7,Zk7,Z0B,Z0B,Y5];simp only[Zlq,List.flatMap_nil,Zj4];generalize ((ZY x.nodes x.E).nodes[j]?).getD default=n at*;unfold Qa at a;simp only[X6];obtain d|d|⟨d,rfl⟩:=R6 x j c;simp[d]at a⊢;omega;simp[d]at a⊢;omega;simp[d]at a⊢;omega
def Z6H(x:Rw)(c:Bool):∀n∈(YR x c).g.nodes,∀q∈n.Y,-1<=q/\q< ((YR x c).g.nodes.length:Int):=by
 rw[RD];exact Mb x.nodes x.E
def Mq(hc:c=xw):∀j,(Y5 x c (ZY x.nodes x.E) j).n3=0/\(Y5 x c (ZY x.nodes x.E) j).n4=0
 |0=>⟨rfl,rfl⟩
 |j+1=>by
  have:=Mq hc j;subst hc;simpa[Y5,X6]using this
def Z6l(hx:x.ok)(hc:c=xk->(YR x xk).h.H.length≠0):Made (YR x c) x:=by
 obtain⟨k1,y,z⟩:=RE hx c;refine⟨PO hx,z,?_,?_,?_,?_,y⟩;rw[RD];exact DP x;intro a i l j;have k:c=xk:=a;subst k;rw[RD]at l;rw[KT l]at j;rw[qv l];unfold Qa at j;unfold Jw;obtain f|f|⟨f,_⟩:=R6 x i xk;simp[f]at j;simp[f];cases WA x i<;>simp;simp[f]at j;have d:(YR x c).h.H.length=(Y5 x c (ZY x.nodes x.E) (ZY x.nodes x.E).nodes.length).n1:=by simp[YR]
 cases c;obtain⟨p,q⟩:=Mq (x:=x) (c:=xw) rfl (ZY x.nodes x.E).nodes.length;rw[d];have o:(YR x xw).h.Z=((Y5 x xw (ZY x.nodes x.E) (ZY x.nodes x.E).nodes.length).n1:Int):=by simp[YR]
 have a:(YR x xw).h.M=xw:=rfl;rw[o,a];simp only[Zi2,ZiF];refine⟨Z0,Z0,trivial,?_,?_⟩<;>simp[YR,p,q];have f:=hc rfl;rw[d]at f;rw[d];have o:(YR x xk).h.Z=pick x.Z (Y5 x xk (ZY x.nodes x.E) (ZY x.nodes x.E).nodes.length).n1:=by
  simp only[YR];rw[ZhS ⟨trivial,Z0⟩]
 have a:(YR x xk).h.M=xk:=rfl;have u:=UR (c:=x.Z) (n:=((Y5 x xk (ZY x.nodes x.E) (ZY x.nodes x.E).nodes.length).n1:Int)) Z0;rw[o,a];simp only[ZiC];omega;have w:=Z0G (c:=c) hx (ZY x.nodes x.E).nodes.length<|ZhL _;have t:(YR x c).h.H.length=(Y5 x c (ZY x.nodes x.E) (ZY x.nodes x.E).nodes.length).n1:=by simp[YR]
 have r:(YR x c).h.aa.length=(Y5 x c (ZY x.nodes x.E) (ZY x.nodes x.E).nodes.length).n2:=by simp[YR]
 have g:(YR x c).h.cap=max (((Y5 x c (ZY x.nodes x.E) (ZY x.nodes x.E).nodes.length).n1:Int)+(Y5 x c (ZY x.nodes x.E) (ZY x.nodes x.E).nodes.length).n2+(Y5 x c (ZY x.nodes x.E) (ZY x.nodes x.E).nodes.length).wt) (((Y5 x c (ZY x.nodes x.E) (ZY x.nodes x.E).nodes.length).n3:Int)+(Y5 x c (ZY x.nodes x.E) (ZY x.nodes x.E).nodes.length).n4)+pick x.bd 12:=rfl;have u:=UR (c:=x.bd) (n:=12) Z0;unfold obs;rw[RD,w,t,r,g];omega
def Zbb(hx:x.ok):Made (YR x xw) x:=Z6l hx Z1
def Zbd(hx:x.ok):Yk (QH x)=xk:=(Zbb hx).right<|Z6H x xw
def Zbc(hx:x.ok):(QH x).ok/\(QH x).M=xw/\(QH x).E.length<=5:=
 ⟨(AH (RE hx xw).1 (RE hx xw).2.1).1,(AH (RE hx xw).1 (RE hx xw).2.1).2.2.2,by
   have:=(RE hx xw).1.rl;simp only[QH,YG,Zia];exact this⟩
end
end
section
def Z74(l:List Nd):NoM<|.sl<|l.map Yj:=by
 have h:=Mr ⟨l,[]⟩;unfold Yx at h;cases h with
 |agg _ h=>exact h _ Z1
def Z75(x:Rw):NoM<|WS x:=.agg _ λc a=>by
 simp only[Zi6,Zjf,ZkH]at a;obtain rfl|rfl|rfl|rfl|rfl|rfl|rfl:=a;all_goals first|exact .int _ _|exact Z74 _|exact Z73 _
def Z0P{h:Hp}{p:Pts}(a:h.ok)(r:Rt h p):VC (YY Tryz.prog) 8 xw [ZE h]<|.bool xk:=by
 have:=up (zy a) (C8<|Ld h)<|.bool _;rwa[r.right]at this
section
variable {h:Hp}{p:Pts}
def Rt.gp(r:Rt h p):Vm.right (vg h)=xk:=r.ma r.fh r.E
def Rt.ve(r:Rt h p):ofG h=(VB<|vg h,0):=ZhS ⟨r.right,r.gp⟩
def Rt.ov(r:Rt h p):liveR h=words (VB<|vg h):=by
 unfold Vm.liveR;rw[r.ve,ZhS rfl]
def Rt.ox(r:Rt h p):(words (VB<|vg h):Int)<=I h.H+I h.aa+YK p:=by
 have a:=Z3b r.gp;have d:=r.mb h.E;have f:words (vg h)=Wy ((XT h).gr h.E).nodes:=ZhS r.gp;omega
end
end
section
def zg{gone:Bool}{ptrs:Int}:∀ {l:Z9} {i:Nat},Xw l gone ptrs i=xk->∀(j:Nat) (w:Int),l[j]?=J w->(gone=xk->w=0)/\(((i+j:Nat):Int)<ptrs->U0 w=xk)
 | [],_,_,j,w,a=>by simp at a
 |y::l,i,d,j,w,a=>by
  simp only[Xw,ZhJ]at d;cases j with
  |zero=>
   simp at a;subst a;obtain⟨⟨f,g⟩,_⟩:=d;refine⟨λh=> ?_,λk=> ?_⟩;rw[h]at f;simpa using f;simpa[show(i:Int)<ptrs by omega]using g
  |succ j=>
   have:=zg d.2 j w Zhu;rw[show i+1+j=i+(j+1)by omega]at this;exact this
def Stands.congr{ws a:Z9}{old:Bool}{o:Ob}(s:Stands ws old o)(n:I a=I ws)(k:a[o.ab.toNat]?=ws[o.ab.toNat]?)
  (g:∀j:Nat,(j:Int)<o.size->a[o.ab.toNat+1+j]?=ws[o.ab.toNat+1+j]? \/(o.gone=xw/\o.Y<=j)):Stands a old o:=by
 refine⟨s.gl,s.shape,by rw[n];exact s.an,SM λj w f=> ?_,by rw[k];exact s.word⟩;have d:j<o.size.toNat:=by
  have:=(ZhH.1 f).1;simp at this;omega
 rw[ZiJ d,Zil]at f;obtain g|⟨l,p⟩:=g j Z0;rw[g]at f;refine zg s.ff j w ?_;rw[ZiJ d,Zil];exact f;exact⟨λh=>(by rw[l]at h;cases h),λh=>Z0⟩
def Tiles.congr{ws d:Z9}{old:Bool}:∀ {a:Nat} {l:Zk},Tiles ws old a l->I d=I ws->(∀o∈l,Stands d old o)->Tiles d old a l
 |a,[],h,f,_=>by show I d<=a;rw[f];exact h
 |a,o::l,h,f,g=>⟨h.1,g o<|.head _,Tiles.congr h.2.2 f λx j=>g x<|.tail _ j⟩
section
variable {h g:Hp}{p:Pts}
def Ey(a:Zv g=Zv h){w i j:Int}:Gos g p w i j↔Gos h p w i j:=by
 unfold Gos;rw[a]
def Tiles.place{ws:Z9}{old:Bool}:∀ {a:Nat} {l:Zk},Tiles ws old a l->∀ {i:Nat} {o:Ob},l[i]?=J o->o.ab=((a+WU (l.take i):Nat):Int)
 |_,[],_,i,o,d=>by simp at d
 |a,x::l,f,0,o,d=>by simp at d;subst d;rw[f.1];simp[WU]
 |a,x::l,f,i+1,o,d=>by
  have:=f.2.2.place (i:=i) (o:=o) ZgW;rw[this];simp[WU];omega
def Zbg{l:Zk}{i:Nat}{o:Ob}(a:l[i]?=J o):WU (l.take<|i+1)=WU (l.take i)+(1+o.size.toNat):=by
 unfold WU;rw[ZiG,a,ZiR,Zl4];simp
end
end
section
section
variable {h:Hp}{p:Pts}
def Body.iw(r:Body h p){k:Int}(d:1<=k/\k<=2){o:Ob}(f:o∈p.at k):Vm.fwd h (ZX (Zv h) k o.ab)=(ZX (Zv h) k o.ab,h,0):=by
 obtain⟨a,n,m,g,_,_,j,_⟩:=r.toTld.ob Z0 f;exact Vm.fwd_here r.bc d ⟨Z0,Z0⟩
def Body.iu(r:Body h p){k:Int}(q:3<=k/\k<=4){o:Ob}(g:o∈p.at k)(l:o.gone=xk):Vm.fwd h (ZX (Zv h) k o.ab)=(2*o.target+1,h,0):=by
 obtain⟨a,n,m,f,_,_,t,_⟩:=r.toTld.ob Z0 g;obtain⟨u,j,d⟩:=((r.am k Z0).ba o g).1.word;rw[ZhS l]at d;rw[f,Zi1]at j;rw[f,Vm.fwd_gone r.bc q j d.2.1,Z0s d.2.1 d.2.2.symm]
def Body.gk(r:Body h p){k:Int}(t:3<=k/\k<=4){o:Ob}(f:o∈p.at k)(q:o.gone=xw){a n:Nat}(j:o.ab=a)(l:o.size=n):
  Vm.fwd h (ZX (Zv h) k o.ab)=(ZX (Zv h) 1<|I h.H,X3 h k a<|n+1,0)/\((n+1:Nat):Int)<=Wa (Zv h):=by
 obtain⟨z,y,m,A,B,_,C,_⟩:=r.toTld.ob Z0 f;have:z=a:=Z0;subst this;have:y=n:=Z0;subst this;obtain⟨u,x,d⟩:=((r.am k Z0).ba o f).1.word;rw[ZhP (by simp[q])]at d;rw[j,Zi1]at x;have D:=r.room;have g:=ZbF t f;unfold Wh at g;rw[q,l]at g;simp at g;have e:Wa (Zv h)=h.cap-I h.H-I h.aa:=by unfold Wa;rw[ZhS r.bc];rfl
 have w:((y+1:Nat):Int)<=Wa (Zv h):=Z0;rw[j];exact⟨Vm.fwd_wait r.bc t x (d.1<|Zlp Z0) (by rw[d.2.1,l]) C w,w⟩
end
def Mf(h:Hp){k:Int}(d:3<=k/\k<=4)(a n:Nat):(X3 h k a n).H=h.H++((Zz h k).take<|a+n).drop a/\(X3 h k a n).aa=h.aa/\Zz (X3 h k a n) k=(zr (Zz h k) a n).set a (ZX (Zv h) 1<|I h.H)/\Zz (X3 h k a n) (7-k)=Zz h (7-k)/\
  (X3 h k a n).E=h.E/\(X3 h k a n).Z=h.Z/\(X3 h k a n).M=h.M/\(X3 h k a n).cap=h.cap/\(X3 h k a n).base=h.base/\(X3 h k a n).to=h.to:=by
 have:k=3\/k=4:=Z0;obtain rfl|rfl:=this<;>exact⟨rfl,rfl,rfl,rfl,rfl,rfl,rfl,rfl,rfl,rfl⟩
end
section
def Z0L{ws a}:∀ {n j},j<n->a+n<=I ws->(zr ws a n)[a+j]?=J 0
 |0,_,h,_=>Z0
 |n+1,j,h,d=>by
  rw[zr];by_cases e:j=n;subst e;rw[Zjb (by rw[jQ];omega)];rw[ZiO Z0];exact Z0L Z0 Z0
def Stands.app{ws r old o}(s:Stands ws old o):Stands (ws++r) old o:=by
 have k:=Yz.1 s.shape;have g:=s.an;have h:=s.gl;have f:(ws++r)[o.ab.toNat]?=ws[o.ab.toNat]? :=ZgH;refine⟨s.gl,s.shape,ZgJ,SM λj w d=> ?_,by rw[f];exact s.word⟩;have a:j<o.size.toNat:=by
  have:=(ZhH.1 d).1;simp at this;omega
 rw[ZiJ a,Zil,Zig Z0]at d;refine zg s.ff j w ?_;simp_all
def Tiles.append{ws r old}:∀ {a} {l d:Zk},Tiles ws old a l->a<=I ws->Tiles (ws++r) old (I ws) d->Tiles (ws++r) old a (l++d)
 |a,[],d,h,g,f=>by
  have:I ws<=a:=h;have:a=I ws:=Z0;subst this;exact f
 |a,o::l,d,h,g,f=>by
  have k:=Yz.1 h.2.1.shape;have j:=h.2.1.an;have e:=h.1;exact⟨h.1,h.2.1.app,Tiles.append h.2.2 Z0 f⟩
theorem Tiles.map{ws d old f}(g:∀o,(f o).ab=o.ab/\(f o).size=o.size)(j:I d=I ws):∀ {a} {l:Zk},Tiles ws old a l->(∀o∈l,Stands d old<|f o)->Tiles d old a (l.map f)
 |a,[],h,_=>by show I d<=a;rw[j];exact h
 |a,o::l,h,k=>⟨by rw[(g o).1];exact h.1,k o<|.head _,by rw[(g o).2];exact Tiles.map g j h.2.2 λx n=>k x<|.tail _ n⟩
def VT(a t:Int)(q:Ob):Ob:=if q.ab=a then {q with gone:=xk,target:=t}else q
theorem KR a t q:(VT a t q).ab=q.ab/\(VT a t q).size=q.size/\(VT a t q).Y=q.Y:=by
 unfold VT;grind
theorem Sh{a t q}(h:q.ab≠a):VT a t q=q:=ZhP h
theorem Sg{a t q}(h:q.ab=a):VT a t q= {q with gone:=xk,target:=t}:=ZhS h
def Pts.mv(p:Pts)(k:Int)(o:Ob)(L:Nat)(t:Int):Pts:=⟨p.H++[⟨L,o.size,o.Y,xw,0⟩],p.aa,if k=3 then p.ah.map (VT o.ab t)else p.ah,if k=3 then p.ak else p.ak.map<|VT o.ab t⟩
section
variable {h:Hp}{p:Pts}
def qh{k}(a:3<=k/\k<=4)o L t:(p.mv k o L t).at 1=p.H++[⟨L,o.size,o.Y,xw,0⟩]/\(p.mv k o L t).at 2=p.aa/\(p.mv k o L t).at k=(p.at k).map (VT o.ab t)/\(p.mv k o L t).at (7-k)=p.at (7-k):=by
 have:k=3\/k=4:=Z0;obtain rfl|rfl:=this<;>exact⟨rfl,rfl,rfl,rfl⟩
def Z6U{k}(d:3<=k/\k<=4){o L t j}(u:1<=j/\j<=4){q}(w:q∈p.at j):∃a∈(p.mv k o L t).at j,a.ab=q.ab/\a.size=q.size/\a.Y=q.Y/\(a.gone=xw->a=q)/\(j<3->a=q):=by
 let⟨h,l,n,r⟩:=qh (p:=p) d o L t;by_cases f:j=1;subst f;exact⟨q,ZgI,rfl,rfl,rfl,Z1,Z1⟩;by_cases g:j=2;subst g;exact⟨q,ZgI,rfl,rfl,rfl,Z1,Z1⟩;grind [VT,List.mem_map_of_mem,KR,Sg,Sh]
def Z6T{g k}(f:3<=k/\k<=4){o L t}(r:∀j b,ZX (Zv g) j b=ZX (Zv h) j b){w i j}(x:1<=i/\i<=4)(y:1<=j/\j<=4)(d:Gos h p w i j):Gos g (p.mv k o L t) w i j:=by
 obtain rfl|⟨m,q,l,n,rfl⟩:=d;exact .inl rfl;let⟨u,a,e,_⟩:=Z6U (p:=p) f (o:=o) (L:=L) (t:=t) (j:=m) Z0 n;exact .inr ⟨m,u,l,a,by rw[r,e]⟩
def Z0F{l o t}(d:l.Pairwise λx y=>x.ab<y.ab)(a:o∈l)(h:o.gone=xw):Y2 (l.map<|VT o.ab t)+(1+o.size.toNat)=Y2 l:=by
 induction l with
 |nil=>simp at a
 |cons x l g=>
  rw[Zlf]at d;simp only[Y2,Zii]at g⊢;obtain rfl|a:=Zi6.1 a
  .have:l.map (VT o.ab t)=l:=by
    conv=>rhs;rw[<-List.map_id l]
    refine ZjH λy f=>Sh ?_;have:=d.1 y f;omega
   rw[Sg rfl];grind [Wh]
  grind [Sh]
def Body.move(r:Body h p)(b6:h.Z<=I h.H){k}(G:3<=k/\k<=4){o}(P:o∈p.at k)(hg:o.gone=xw){a n:Nat}(ea:o.ab=a)(N:o.size=n):
  Body (X3 h k a<|n+1) (p.mv k o (I h.H)<|ZC (Zv h) 1+I h.H):=by
 obtain⟨B,D,m,a7,a9,em,K,b3,b2⟩:=r.toTld.ob (k:=k) Z0 P;have:B=a:=Z0;subst this;have:D=n:=Z0;subst this;obtain⟨_,hm⟩:=r.gk G P hg ea N;obtain⟨m1,m2,m3,m4,m5,m6,m7,m8,m9,b8⟩:=Mf h G B<|D+1;have Z:=C1 G (g:=h) K;have mr:=Z6O r.bc G K hm;have hr:=Z9f G K;have hw:∀ {j:Int} {b:Nat},3<=j/\j<=4->(j≠k\/b<B\/B+(D+1)<=b)->(Zz (X3 h k B<|D+1) j)[b]?=(Zz h j)[b]? :=λC hb=>Mg G Z0 C hb;have O:∀ {j:Int},3<=j/\j<=4->I (Zz (X3 h k B<|D+1) j)=I (Zz h j):=λC=>C2 G C;have R:ZC (Zv<|X3 h k B<|D+1) 1=ZC (Zv h) 1:=by rw[Z];rfl
 have X:∀i,i<D+1->(((Zz h k).take<|B+(D+1)).drop B)[i]?=(Zz h k)[B+i]? :=ZgI;have a4:I (((Zz h k).take<|B+(D+1)).drop B)=D+1:=ZgJ;obtain⟨e1,e2,e3,e4⟩:=qh (p:=p) G o (I h.H)<|ZC (Zv h) 1+I h.H;have H:=((r.am k Z0).ba o P).1;obtain⟨u,hu,hc⟩:=H.word;rw[ZhP (by simp[hg])]at hc;rw[ea,Zi1]at hu;generalize b1:X3 h k B (D+1)=g at*;generalize a6:((Zz h k).take<|B+(D+1)).drop B=ws at*;have a1:∀q∈p.at k,q.ab≠o.ab->∀i:Nat,(i:Int)<=q.size->q.ab.toNat+i<B\/B+(D+1)<=q.ab.toNat+i:=by
  intro q d S i A;obtain⟨b,l,_,eb,el,_⟩:=r.toTld.ob (k:=k) Z0 d;rcases(r.am k Z0).apart q d o P with e|e|e;simp_all;left;omega;omega
 have F:∀q∈p.at k,q.ab≠o.ab->∀i:Nat,(i:Int)<=q.size->(Zz g k)[q.ab.toNat+i]?=(Zz h k)[q.ab.toNat+i]? :=λq d S i A=>hw G<|.inr<|a1 q d S i A;have a0:∀b,(Zz g<|7-k)[b]?=(Zz h<|7-k)[b]? :=λb=>hw Z0 Z0;have T:Stands (h.H++ws) xw ⟨I h.H,o.size,o.Y,xw,0⟩:=by
  refine⟨Z1,H.shape,ZgJ,SM λj w C=>⟨Z1,λW=> ?_⟩,u,?_,?_⟩;have L:j<D:=by
   have:=(ZhH.1 C).1;simp[N]at this;omega
  simp only[N,Zi1]at C;rw[ZiJ L,Zil,Zi3 Z0,show I h.H+1+j-I h.H=1+j by omega,X _ Z0]at C;refine(zg H.ff j w ?_).2 W;rw[ea,N,Zi1,Zi1,ZiJ L,Zil,<-C,ZiS];simp only[Zi1];grind;grind
 have a5:=Va r.bc 1;refine⟨⟨mr,λj C=> ?_⟩,λj C q d z=> ?_,λj C q d z i A w f=> ?_,?_⟩;by_cases j1:j=1;subst j1;rw[e1];simp only[VH,m1];exact(r.am 1 Z0).append Z0 ⟨rfl,T,by show I (h.H++ws)<=_;simp[N,a4];omega⟩;by_cases j2:j=2;subst j2;rw[e2];simp only[qK,m2];exact r.am 2 Z0;by_cases Y:j=k;subst Y;rw[e3];refine(r.am j Z0).map (λq=>⟨(KR _ _ q).1,(KR _ _ q).2.1⟩) (O G) λq d=> ?_;by_cases e:q.ab=o.ab;have:q=o:=r.toTld.dm Z0 P d e;subst this;rw[Sg rfl];refine⟨H.gl,H.shape,ZgH,SM λi w A=> ?_,ZX (Zv h) 1<|I h.H,?_,?_⟩;have L:i<D:=by
  have:=(ZhH.1 A).1;simp[N]at this;omega
 simp only[ea,N,Zi1]at A;rw[ZiJ L,Zil,m3,ZiO Z0,ZiS,Z0L Z0 K]at A;cases A;exact⟨Z0,λ_=>rfl⟩;grind [Int.toNat_natCast,List.getElem?_set_self,jQ];simp only[ZiC];rw[UB r.bc Z0];grind;rw[Sh e];refine((r.am j Z0).ba q d).1.congr (O G) (by simpa using F q d e 0 (by have:=Yz.1 ((r.am j Z0).ba q d).1.shape;omega)) λi A=>.inl ?_;rw[ZiS];exact F q d e (1+i) Z0;have:j=7-k:=Z0;subst this;rw[e4,m4];exact r.am (7-k) Z0;by_cases Y:j=k;subst Y;rw[e3,Zi4]at d;obtain⟨x,Q,rfl⟩:=d;by_cases e:x.ab=o.ab;have:x=o:=r.toTld.dm Z0 P Q e;subst this;rw[Sg rfl];exact⟨_,ZlK _<|.head _,by rw[R],rfl,rfl⟩;rw[Sh e]at z⊢;obtain⟨y,hy,y1,y2,y3⟩:=r.gone j C x Q z;exact⟨y,Zj8 _ hy,Z0,y2,y3⟩;have:j=7-k:=Z0;subst this;rw[e4]at d;obtain⟨y,hy,y1,y2,y3⟩:=r.gone _ C q d z;exact⟨y,Zj8 _ hy,Z0,y2,y3⟩;have b0:∀ {w i j:Int},1<=i/\i<=4->1<=j/\j<=4->Gos h p w i j->Gos g (p.mv k o (I h.H)<|ZC (Zv h) 1+I h.H) w i j:=λA C=>Z6T G hr A C;have M:∀ {j:Int} {i:Nat} {w:Int},Xx h p j i w->Xx g (p.mv k o (I h.H)<|ZC (Zv h) 1+I h.H) j i w:=λ{j i w} W=>by
  unfold Xx at W⊢;rw[m6];by_cases c1:2<j;grind;rw[ZhP c1]at W⊢;by_cases c2:j=1/\h.Z<=i;grind;rw[ZhP c2]at W⊢;grind
 by_cases j1:j=1;subst j1;rw[e1]at d;obtain d|d:=Zib.1 d;obtain⟨b,l,l',eb,el,a8,a2,_⟩:=r.toTld.ob (k:=1) Z0 d;simp only[VH]at a2 f;rw[m1,Zig Z0]at f;exact M<|r.ptr 1 Z0 q d z i A w f;simp at d;subst d;simp only at A f⊢;simp only[Zi1,VH,m1]at f⊢;rw[Zi3 Z0,show I h.H+1+i-I h.H=1+i by omega,X _ Z0]at f;have:=r.ptr k Z0 o P hg i A w (by grind [Int.toNat_natCast,Nat.add_assoc]);unfold Xx at this⊢;rw[ZhS Z0]at this;rw[ZhP Z0,ZhS ⟨rfl,Z0⟩];grind;by_cases j2:j=2;subst j2;rw[e2]at d;simp only[qK,m2]at f;exact M<|r.ptr 2 Z0 q d z i A w f;by_cases Y:j=k;subst Y;rw[e3,Zi4]at d;obtain⟨x,Q,rfl⟩:=d;by_cases e:x.ab=o.ab;grind [Sg];rw[Sh e]at z A f⊢;have b4:=(Yz.1 ((r.am j Z0).ba x Q).1.shape).2.2.2;rw[ZiS,F x Q e (1+i) Z0,<-ZiS]at f;exact M<|r.ptr j C x Q z i A w f;have:j=7-k:=Z0;subst this;rw[e4]at d;rw[m4]at f;exact M<|r.ptr _ C q d z i A w f;have b5:=r.room;have b7:YK (p.mv k o (I h.H)<|ZC (Zv h) 1+I h.H)+(1+D)=YK p:=by
  have h1:=(r.am k Z0).fi;have:=Z0F (t:=ZC (Zv h) 1+I h.H) h1 P hg;rw[N,Zi1]at this;unfold YK;have a3:k=3\/k=4:=Z0;obtain rfl|rfl:=a3;simp only[Pts.nx]at this;simp only[Pts.mv,ZiC];omega;simp only[Pts.ny]at this;simp only[Pts.mv,show ¬(4:Int)=3 by omega,ZiF];omega
 grind
end
end
section
def SY(h:Hp)(p:Pts):Prop:=∀o∈p.H,Tx p (ZC (Zv h) 1+o.ab)=1
section
variable {h g:Hp}{p q:Pts}
def Zbn{l o t b}(d:l.Pairwise λx y=>x.ab<y.ab)(a:o∈l)(g:o.gone=xw):XI (l.map<|VT o.ab t) b=XI l b+if t=b then 1 else 0:=by
 induction l with
 |nil=>simp at a
 |cons x l h=>
  rw[Zlf]at d;have e:∀y r,XI (y::r) b=(if y.gone=xk/\y.target=b then 1 else 0)+XI r b:=λy r=>by
   unfold XI;grind
  rw[Zii,e];obtain rfl|a:=Zi6.1 a
  .have:l.map (VT o.ab t)=l:=by
    conv=>rhs;rw[<-List.map_id l]
    refine ZjH λy f=>Sh ?_;have:=d.1 y f;omega
   rw[Sg rfl];grind
  grind [Sh]
def Zbo(r:Body h p){b:Int}(n:I h.H<=b):Tx p (ZC (Zv h) 1+b)=0:=by
 have key:∀k,3<=k/\k<=4->XI (p.at k) (ZC (Zv h) 1+b)=0:=λk d=>by
  unfold XI;rw[ZjA,ZkJ];intro o f a;simp[Zid]at a;let⟨y,g,e,_⟩:=r.gone k d o f a.1;have:=r.toTld.mw g;omega
 have j:=key 3 Z0;have l:=key 4 Z0;simp_all[Pts.nx,Pts.ny,Tx]
def Zbj(r:Body h p){k}(j:3<=k/\k<=4){o}(g:o∈p.at k)(f:o.gone=xw){L t b}:Tx (p.mv k o L t) b=Tx p b+if t=b then 1 else 0:=by
 have d:=Zbn (t:=t) (b:=b) (r.am k Z0).fi g f;unfold Tx;have a:k=3\/k=4:=Z0;obtain rfl|rfl:=a;simp[Pts.nx]at d;simp[Pts.mv];omega;simp[Pts.ny]at d;simp[Pts.mv,ZiF];omega
structure Ext (h:Hp) (p:Pts) (g:Hp) (q:Pts):Prop where
 H:∃ws,g.H=h.H++ws
 aa:g.aa=h.aa
 base:g.base=h.base
 cap:g.cap=h.cap
 rm:g.to=h.to
 M:g.M=h.M
 Z:g.Z=h.Z
 E:g.E=h.E
 td:I g.ah=I h.ah
 ot:I g.ak=I h.ak
 gx:∃r,q.H=p.H++r
 gw:q.aa=p.aa
 lq:∀k:Int,3<=k/\k<=4->(q.at k).map (λo=>(o.ab,o.size,o.Y))=(p.at k).map (λo=>(o.ab,o.size,o.Y))
 gone:∀k:Int,3<=k/\k<=4->∀(i:Nat) (o o':Ob),(p.at k)[i]?=J o->(q.at k)[i]?=J o'->(o.gone=xk->o'=o)/\(o'.gone=xw->o'=o/\∀j:Nat,(j:Int)<=o.size->(Zz g k)[o.ab.toNat+j]?=(Zz h k)[o.ab.toNat+j]?)
 room:(I g.H:Int)+YK q=I h.H+YK p
def Ext.refl h p:Ext h p h p:=
 ⟨⟨[],Z1⟩,rfl,rfl,rfl,rfl,rfl,rfl,rfl,rfl,rfl,⟨[],Z1⟩,rfl,Z1,ZgI,rfl⟩
theorem Ext.trans{f s}(a:Ext h p g q)(b:Ext g q f s):Ext h p f s:=by
 let⟨w1,y⟩:=a.H;let⟨w2,z⟩:=b.H;let⟨H,A⟩:=a.gx;let⟨K,B⟩:=b.gx;refine⟨ZgI,b.aa.trans a.aa,b.base.trans a.base,b.cap.trans a.cap,b.rm.trans a.rm,b.M.trans a.M,b.Z.trans a.Z,b.E.trans a.E,b.td.trans a.td,b.ot.trans a.ot,ZgI,b.gw.trans a.gw,λk d=>(b.lq k d).trans<|a.lq k d,λk d i o n r w=> ?_,b.room.trans a.room⟩;have D:I (q.at k)=I (p.at k):=by have:=ZiP List.length<|a.lq k d;simpa using this
 have C:=(ZhH.1 r).1;have l:(q.at k)[i]?=J ((q.at k)[i]'Z0):=Z1;generalize (q.at k)[i]'Z0=t at l;let⟨u,c2⟩:=a.gone k d i o t r l;let⟨d1,d2⟩:=b.gone k d i t n l w;refine⟨λj=> ?_,λj=> ?_⟩;have:=u j;subst this;exact d1 j;let⟨k1,F⟩:=d2 j;subst k1;let⟨x,G⟩:=c2 j;subst x;exact⟨rfl,ZgI⟩
def Ext.fst(e:Ext h p g q)k a(d:k=1\/k=3\/k=4\/k=2):ZX (Zv g) k a=ZX (Zv h) k a:=by
 unfold ZX ZC Zv;simp[e.base,e.cap,e.rm,e.aa,e.ot]
def Ext.mem(e:Ext h p g q){j}(l:1<=j/\j<=4){o}(f:o∈p.at j):∃a∈q.at j,a.ab=o.ab/\a.size=o.size/\a.Y=o.Y:=by
 have d:j=1\/j=2\/j=3\/j=4:=Z0;obtain rfl|rfl|k:=d;let⟨r,n⟩:=e.gx;exact⟨o,ZgI,rfl,rfl,rfl⟩;exact⟨o,by show o∈q.aa;rw[e.gw];exact f,rfl,rfl,rfl⟩;have:=e.lq j Z0;grind [List.mem_map_of_mem]
def Ext.ou(e:Ext h p g q){w i j}(t:1<=i/\i<=4)(u:1<=j/\j<=4)(l:Gos h p w i j):Gos g q w i j:=by
 obtain rfl|⟨m,o,f,n,rfl⟩:=l;exact .inl rfl;have a:1<=m/\m<=4:=by obtain rfl|rfl:=f<;>assumption
 let⟨r,d,k,_⟩:=e.mem a n;exact .inr ⟨m,r,f,d,by rw[e.fst _ _ Z0,k]⟩
theorem Body.ext(r:Body h p)(S:h.Z<=I h.H){k}(f:3<=k/\k<=4){o}(q:o∈p.at k)(P:o.gone=xw){a n:Nat}(ea:o.ab=a)(en:o.size=n):
  Ext h p (X3 h k a<|n+1) (p.mv k o (I h.H)<|ZC (Zv h) 1+I h.H):=by
 let⟨u,B,m,N,O,em,y,R,Q⟩:=r.toTld.ob (k:=k) Z0 q;have:u=a:=Z0;subst this;have:B=n:=Z0;subst this;let⟨W,X,m3,m4,Y,Z,m7,m8,m9,A⟩:=Mf h f u<|B+1;let⟨K,L,M,e4⟩:=qh (p:=p) f o (I h.H)<|ZC (Zv h) 1+I h.H;have T:(X3 h k u<|B+1).ak.length=I h.ak:=C2 (j:=4) f Z0;refine⟨⟨_,W⟩,X,m9,m8,A,m7,Z,Y,C2 (j:=3) f Z0,T,⟨_,K⟩,L,λj D=> ?_,λj D i x x' g w=> ?_,?_⟩;by_cases H:j=k;simp_all[Zkl,ZjH,KR,ZC,Zv,Function.comp];have:j=7-k:=Z0;simp_all;by_cases H:j=k;subst H;rw[M,Zi8,g]at w;simp at w;subst w;have d:=ZhR g;by_cases e:x.ab=o.ab;have:=r.toTld.dm Z0 q d e;subst this;rw[Sg rfl];exact⟨ZgI,Z1⟩;rw[Sh e];refine⟨Z1,λ_=>⟨rfl,λi hi=>Mg f Z0 D<|.inr ?_⟩⟩;let⟨b,l,_,eb,el,_⟩:=r.toTld.ob (k:=j) Z0 d;rcases(r.am j Z0).apart x d o q with C|C|C;simp_all;left;omega;omega;have:j=7-k:=Z0;simp_all;have g:=(r.am k Z0).fi;have G:=Z0F (t:=ZC (Zv h) 1+I h.H) g q P;have F:=Z6N f y;unfold YK;have z:k=3\/k=4:=Z0;obtain rfl|rfl:=z;simp[Pts.nx]at G;simp[Pts.mv,ZiC];omega;simp[Pts.ny]at G;simp[Pts.mv,show ¬(4:Int)=3 by omega,ZiF];omega
def Z7x(r:Body h p)(f:SY h p)(g:h.Z<=I h.H){k}(l:3<=k/\k<=4){o}(q:o∈p.at k)(j:o.gone=xw){a n:Nat}(t:o.ab=a)(u:o.size=n):
  SY (X3 h k a<|n+1) (p.mv k o (I h.H)<|ZC (Zv h) 1+I h.H):=by
 have w:ZC (Zv<|X3 h k a<|n+1) 1=ZC (Zv h) 1:=by
  have:=(r.ext g l q j t u).fst 1 0 Z0;unfold ZX at this;omega
 intro x d;rw[Zbj r l q j,w];obtain d|d:=Zib.1 d;have:=r.toTld.mw d;rw[f x d,ZhP Z0];simp_all[Zbo,Int.le_refl]
def Res(g:Hp)(q:Pts)(w v:Int):Prop:=(w=0/\v=0)\/∃k o,(k=3\/k=4)/\o∈q.at k/\w=ZX (Zv g) k o.ab/\o.gone=xk/\v=2*o.target+1
theorem Res.ext{w v}(r:Res h p w v)(e:Ext h p g q):Res g q w v:=by
 obtain r|⟨k,o,t,u,f,a,j⟩:=r;exact .inl r;let⟨i,d⟩:=Zi9 u;have x:I (q.at k)=I (p.at k):=by have:=ZiP List.length<|e.lq k Z0;simpa using this
 have n:=(ZhH.1 d).1;have l:(q.at k)[i]?=J ((q.at k)[i]'Z0):=Z1;have:=(e.gone k Z0 i o _ d l).1 a;exact .inr ⟨k,o,t,ZgH,by rw[e.fst _ _ Z0];exact f,a,j⟩
structure FwdTo (h:Hp) (p:Pts) (w v:Int) (g:Hp) (q:Pts):Prop where
 fwd:fwd h w=(v,g,0)
 body:Body g q
 ga:SY h p->SY g q
 ext:Ext h p g q
 vl:Gos g q v 1 2
 zero:v=0↔w=0
 cx:(Gos h p w 1 2/\v=w/\g=h/\q=p)\/Res g q w v
 how:(g=h/\q=p)\/∃(k:Int) (o:Ob) (a n:Nat),(3<=k/\k<=4)/\o∈p.at k/\o.gone=xw/\o.ab=a/\o.size=n/\g=X3 h k a (n+1)/\q=p.mv k o (I h.H) (ZC (Zv h) 1+I h.H)/\v=ZX (Zv h) 1 (I h.H)
def Body.ij(r:Body h p)(l:h.Z<=I h.H){w}(L:Gos h p w 1 2\/Gos h p w 3 4):∃v g q,FwdTo h p w v g q:=by
 by_cases C:w=0;subst C;exact⟨0,h,p,Hj r.bc,r,id,.refl h p,.inl rfl,Z1,.inr<|.inl ⟨rfl,rfl⟩,Z1⟩;have B:∃k o,1<=k/\k<=4/\o∈p.at k/\w=ZX (Zv h) k o.ab:=by
  obtain(F|⟨k,o,f,d,e⟩)|(F|⟨k,o,f,d,e⟩):=L;omega;grind;omega;grind
 obtain⟨k,o,k1,N,d,rfl⟩:=B;by_cases G:k<=2;exact⟨_,h,p,r.iw ⟨k1,G⟩ d,r,id,.refl h p,.inr ⟨k,o,Z0,d,rfl⟩,ZjE,.inl ⟨.inr ⟨k,o,Z0,d,rfl⟩,rfl,rfl,rfl⟩,Z1⟩;have f:3<=k/\k<=4:=Z0;cases j:o.gone;let⟨a,n,m,t,u,em,H,_⟩:=r.toTld.ob ⟨k1,N⟩ d;let⟨D,_⟩:=r.gk f d j t u;have e:=r.ext l f d j t u;have b:=r.move l f d j t u;have x:(⟨I h.H,o.size,o.Y,xw,0⟩:Ob)∈(p.mv k o (I h.H)<|ZC (Zv h) 1+I h.H).H:=ZlK _<|.head _;have A:ZX _ 1 (I h.H)=ZX _ 1 (I h.H):=(e.fst 1 _ Z0).symm;exact⟨_,_,_,D,b,λz=>Z7x r z l f d j t u,e,.inr ⟨1,_,.inl rfl,x,A⟩,iff_of_false (De r.bc Z0) C,.inr<|.inr ⟨k,_,Z0,by rw[(qh f o _ _).2.2.1];exact Zjr d,by rw[e.fst _ _ Z0,(KR _ _ _).1],by rw[Sg rfl],by rw[Sg rfl];rfl⟩,.inr ⟨k,o,a,n,f,d,j,t,u,rfl,rfl,rfl⟩⟩;let⟨y,M,e,_⟩:=r.gone k f o d j;have K:2*o.target+1=ZX (Zv h) 1 y.ab:=by unfold ZX;omega
 refine⟨_,h,p,r.iu f d j,r,id,.refl h p,.inr ⟨1,y,.inl rfl,M,K⟩,?_,.inr<|.inr ⟨k,o,Z0,d,rfl,j,rfl⟩,Z1⟩;omega
end
end
section
def Vn(l:Zk)(i:Int):Bool:=l.any λo=>decide (o.ab<i)&&decide (i<=o.ab+o.Y)
def X0(g:Hp):Hp:=if g.Z=(I g.H) then {g with M:=xw,ah:=[],ak:=[]}else g
def WK(h:Hp):Hp:=
 X0 (if Vn (ZP h.H [] xw).1 h.Z=xk then
  {(fwd h<|(h.H[h.Z.toNat]?).getD 0).2.1 with H:=(fwd h<|(h.H[h.Z.toNat]?).getD 0).2.1.H.set h.Z.toNat (fwd h<|(h.H[h.Z.toNat]?).getD 0).1,Z:=h.Z+1}
 else {h with Z:=h.Z+1})
def Y9(h:Hp):Nat->Hp
 |0=>h
 |k+1=>if h.M then Y9 (WK h) k else h
section
variable {h g:Hp}{p q:Pts}
def Ji{l i}:Vn l i=xk↔ ∃o∈l,o.ab<i/\i<=o.ab+o.Y:=by
 unfold Vn;simp
def Rt.mc(r:Rt h p):ZP h.H [] xw=(p.H,0):=by
 have t:=r.am 1 Z0;simp[Pts.mf]at t;refine zp t ?_;unfold VV;have:p.H.filter (λo=>o.gone)=[]:=by
  rw[ZkJ];intro o a;rw[t.cq o a];simp
 rw[this];rfl
def Z5L(t:Tld h p){w}(f:Gos h p w 1 2):U0 w=xk:=by
 unfold U0;obtain a|⟨k,_,_,_,o,_,d,_⟩:=f.vd t Z0 Z0;simp[a];simp[d]
def Body.ra(b:Body g q){i:Nat}(hs:g.Z=i)(K:i<I g.H){v}(M:Gos g q v 1 2)(G:Vn q.H i=xk):Body {g with H:=g.H.set i v,Z:=i+1} q:=by
 let⟨o,L,Z,h2⟩:=Ji.1 G;let⟨a,n,m,X,Y,em,D,_,W⟩:=b.toTld.ob (k:=1) Z0 L;simp[VH]at D;have F:Zv {g with H:=g.H.set i v,Z:=i+1}=Zv g:=by
  unfold Zv;simp
 have f:∀ {w N O},Gos {g with H:=g.H.set i v,Z:=i+1} q w N O↔Gos g q w N O:=Ey F;have z:=b.am 1 Z0;simp[VH,Pts.mf]at z;have u:∀x∈q.H,∀j:Nat,j<=x.size->x.ab.toNat+j=i->x=o/\0<j/\j<=x.Y:=by
  intro x p j r e;let⟨c,d,P,Q,R,C,_⟩:=b.toTld.ob (k:=1) Z0 p;obtain B|B|B:=z.apart x p o L;subst B;exact⟨rfl,Z0,Z0⟩;omega;omega
 refine⟨⟨by rw[F];exact b.bc,λk A=> ?_⟩,by rw[F];exact b.gone,λk A x p H j r w t=> ?_,?_⟩;by_cases k1:k=1;subst k1;show Tiles (g.H.set i v) _ 0 q.H;refine z.congr Z1 λx p=> ?_;have l:=(z.ba x p).1;let⟨c,d,P,Q,R,C,T,_⟩:=b.toTld.ob (k:=1) Z0 p;have S:(g.H.set i v)[x.ab.toNat]?=g.H[x.ab.toNat]? :=by
  refine ZiO λe=> ?_;have:=(u x p 0 Z0 Z0).2.1;omega
 refine⟨l.gl,l.shape,by simpa using l.an,SM λj w r=>⟨λh=>(by rw[z.cq x p]at h;cases h),λG=> ?_⟩,by rw[S];exact l.word⟩;have y:j<x.size.toNat:=by
  omega
 rw[ZiJ y,Zil]at r;by_cases e:x.ab.toNat+1+j=i;rw[e,Zjb K]at r;cases r;exact Z5L b.toTld M;rw[ZiO (λh=>e h.symm)]at r;refine(zg l.ff j w ?_).2 G;rw[ZiJ y,Zil];exact r;have:=b.am k A;have e:Zz {g with H:=g.H.set i v,Z:=i+1} k=Zz g k:=by unfold Zz;rw[ZhP k1,ZhP k1]
 rw[e];exact this;unfold Xx;by_cases k1:k=1;subst k1;simp[VH]at t;rw[ZhP Z0];by_cases e:x.ab.toNat+1+j=i;rw[e,Zjb K]at t;cases t;rw[ZhP (by rw[e];simp only;omega)];exact f.2 M;rw[ZiO (λh=>e h.symm)]at t;have:=b.ptr 1 A x p H j r w t;unfold Xx at this;rw[ZhP Z0]at this;by_cases c:g.Z<=((x.ab.toNat+1+j:Nat):Int);rw[ZhS ⟨rfl,c⟩]at this;rw[ZhS ⟨rfl,by simp only;omega⟩];exact this.imp f.2 f.2;rw[ZhP (λh=>c h.2)]at this;rw[ZhP (by simp only;omega)];exact f.2 this;have e:Zz {g with H:=g.H.set i v,Z:=i+1} k=Zz g k:=by unfold Zz;rw[ZhP k1,ZhP k1]
 rw[e]at t;have:=b.ptr k A x p H j r w t;unfold Xx at this;by_cases c:2<k;rw[ZhS c]at this⊢;exact f.2 this;rw[ZhP c,ZhP (λh=>k1 h.1)]at this;rw[ZhP c,ZhP (λh=>k1 h.1)];exact f.2 this;have:=b.room;simpa using this
def Body.ur(b:Body g q){i:Nat}(z:g.Z=i)(r:¬Vn q.H i=xk):Body {g with Z:=i+1} q:=by
 refine⟨⟨b.bc,b.am⟩,b.gone,λk o x d f j l w t=> ?_,b.room⟩;have:=b.ptr k o x d f j l w t;unfold Xx at this⊢;by_cases c:2<k;rw[ZhS c]at this⊢;exact this;rw[ZhP c]at this⊢;by_cases k1:k=1;subst k1;by_cases c:g.Z<=((x.ab.toNat+1+j:Nat):Int);rw[ZhS ⟨rfl,c⟩]at this
 have p:x.ab.toNat+1+j≠i:=λe=>r (Ji.2 ⟨x,d,by
  let⟨a,n,m,u,y,em,_⟩:=b.toTld.ob (k:=1) Z0 d;omega⟩)
 rw[ZhS ⟨rfl,by simp only;omega⟩];exact this;rw[ZhP (λh=>c h.2)]at this;rw[ZhP (by simp only;omega)];exact this;rw[ZhP (λh=>k1 h.1)]at this⊢;exact this
def Body.stop(b:Body g q)(F:g.Z=I g.H):Body {g with M:=xw,ah:=[],ak:=[]} ⟨q.H,q.aa,[],[]⟩:=by
 have z:=XH.1 b.bc;have D:∀k a,(k=1\/k=2)->ZX (Zv {g with M:=xw,ah:=[],ak:=[]}) k a=ZX (Zv g) k a:=λk a d=>by
  obtain rfl|rfl:=d<;>rfl
 have f:∀ {w},Gos g q w 1 2->Gos {g with M:=xw,ah:=[],ak:=[]} ⟨q.H,q.aa,[],[]⟩ w 1 2:=λ{w} p=>by
  obtain rfl|⟨k,o,d,t,rfl⟩:=p;exact .inl rfl;refine .inr ⟨k,o,d,?_,ZgI⟩;obtain rfl|rfl:=d<;>exact t
 refine⟨⟨XH.2 ?_,λk d=> ?_⟩,λk d o t=> ?_,λk d x l p j u w y=> ?_,?_⟩;simp[Zv,ZiQ]at z⊢;omega;have h:k=1\/k=2\/k=3\/k=4:=Z0;obtain rfl|rfl|rfl|rfl:=h;exact b.am 1 Z0;exact b.am 2 Z0;exact ZhL 0;exact ZhL 0;have h:k=3\/k=4:=Z0;obtain rfl|rfl:=h<;>cases t
 have h:k=1\/k=2\/k=3\/k=4:=Z0;obtain rfl|rfl|rfl|rfl:=h;have:=b.ptr 1 Z0 x l p j u w y;let⟨a,n,m,B,C,em,r,_,A⟩:=b.toTld.ob (k:=1) Z0 l;simp[VH]at r;unfold Xx at this⊢;rw[ZhP Z0,ZhP Z0]at this;rw[ZhP Z0,ZhP (by simp only;omega)];exact f this;have:=b.ptr 2 Z0 x l p j u w y;exact f this;cases l;cases l;have:=b.room;simp[YK,Y2];omega
structure ScanTo (h:Hp) (p:Pts) (g:Hp) (q:Pts):Prop where
 eq:WK h=g
 rt:Rt g q
 H:∃ws,I g.H=I h.H+ws/\∀j:Nat,(j:Int)<h.Z->g.H[j]?=h.H[j]?
 aa:g.aa=h.aa
 E:g.E=h.E
 num:g.base=h.base/\g.cap=h.cap/\g.to=h.to/\g.Z=h.Z+1
 gx:∃r,q.H=p.H++r
 gw:q.aa=p.aa
 room:g.M=xk->(I g.H:Int)+YK q=I h.H+YK p
 tx:(I g.H:Int)<=I h.H+YK p
 via:∃(i:Nat) (w v:Int) (f:Hp) (s:Pts),h.Z=i/\h.H[i]?=J w/\g=X0 {f with H:=f.H.set i v,Z:=(i:Int)+1}/\(q.H=s.H/\q.aa=s.aa)/\(g.M=xk->q=s)/\((v=w/\f=h/\s=p)\/(Vn s.H i=xk/\(Gos h p w 1 2\/Gos h p w 3 4)/\FwdTo h p w v f s))
def Rt.Z(r:Rt h p)(hc:h.M=xk):∃g q,ScanTo h p g q:=by
 let⟨i,u⟩:=ZhW r.ip;have a1:i<I h.H:=by have:=r.kz hc;omega
 have C:=r.mc;have fin:∀(f:Hp) (s:Pts),Body f s->SY f s->f.Z=(i:Int)+1->f.M=xk->(i:Int)+1<=I f.H->(∀w∈f.E,Gos f s w 1 2)->I f.E<=16->∃q,Rt (X0 f) q/\(q.H=s.H/\q.aa=s.aa)/\((X0 f).M=xk->q=s):=by
  intro f s b o Z A R Y X;unfold X0;by_cases e:f.Z=I f.H;rw[ZhS e];have b':=b.stop e;refine⟨_,⟨b',X,by show 0<=f.Z;omega,by show f.Z<=I f.H;omega,Z1,ZgI,Z1,λw l=> ?_⟩,Z1,Z1⟩;obtain rfl|⟨k,o,Q,z,rfl⟩:=Y w l;exact .inl rfl;refine .inr ⟨k,o,Q,?_,?_⟩;obtain rfl|rfl:=Q<;>exact z;obtain rfl|rfl:=Q<;>rfl;rw[ZhP e];exact⟨s,⟨b,X,Z0,Z0,Z0,ZgI,λ_=>o,Y⟩,Z1,Z1⟩
 have t:∀f:Hp,(X0 f).H=f.H/\(X0 f).aa=f.aa/\(X0 f).E=f.E/\(X0 f).base=f.base/\(X0 f).cap=f.cap/\(X0 f).to=f.to/\(X0 f).Z=f.Z:=λf=>by
  unfold X0;split<;>exact⟨rfl,rfl,rfl,rfl,rfl,rfl,rfl⟩
 have l:h.H[i]?=J h.H[i]:=Z1;generalize h.H[i]=w at l;by_cases K:Vn p.H i=xk;let⟨o,z,h1,h2⟩:=Ji.1 K;let⟨a,n,m,ea,en,em,a0,_⟩:=r.toTld.ob (k:=1) Z0 z;have P:Gos h p w 1 2\/Gos h p w 3 4:=by
  have t1:=r.am 1 Z0;have:=r.ptr 1 Z0 o z (t1.cq o z) (i-a-1) Z0 w (by simp only[VH];rw[ea,show(a:Int).toNat+1+(i-a-1)=i by omega];exact l);unfold Xx at this;rw[ZhP Z0,ZhS ⟨rfl,Z0⟩]at this;exact this
 let⟨v,g,q,f⟩:=r.toBody.ij r.ku P;have Z:=f.ext.Z.trans u;let⟨ws,x⟩:=f.ext.H;let⟨rs,T⟩:=f.ext.gx;have B:i<I g.H:=by rw[x,Zin];omega
 have S:Vn q.H i=xk:=Ji.2 ⟨o,by rw[T];exact Zj8 _ z,h1,h2⟩;have b:=f.body.ra Z B f.vl S;have eq:WK h=X0 {g with H:=g.H.set i v,Z:=(i:Int)+1}:=by
  unfold WK;rw[C,u,ZhS K];simp only[Zi1,l,Zih,f.fwd]
 have A:=f.ext.M.trans hc;have R:Zv {g with H:=g.H.set i v,Z:=(i:Int)+1}=Zv g:=by unfold Zv;simp
 have on:SY {g with H:=g.H.set i v,Z:=(i:Int)+1} q:=by
  have:=f.ga<|r.ga hc;unfold SY at this⊢;rw[R];exact this
 let⟨s,G,⟨W,H⟩,y⟩:=fin _ q b on rfl A ZgJ (λw l=>(Ey R).2<|f.ext.ou Z0 Z0<|r.E w (by rw[<-f.ext.E];exact l)) (by show I g.E<=16;rw[f.ext.E];exact r.fh);let⟨k1,D,F,L,M,N,O⟩:=t {g with H:=g.H.set i v,Z:=(i:Int)+1};rw[<-eq]at G k1 D F L M N O y;have d:(WK h).H.length=I g.H:=by rw[k1];simp
 refine⟨_,s,rfl,G,⟨I ws,by rw[d,x,Zin],λj hj=> ?_⟩,D.trans f.ext.aa,F.trans f.ext.E,⟨L.trans f.ext.base,M.trans f.ext.cap,N.trans f.ext.rm,by rw[O,u]⟩,ZgI,H.trans f.ext.gw,λh=> ?_,?_,i,w,v,g,q,u,l,eq,⟨W,H⟩,y,ZgI⟩;rw[k1];simp only;rw[ZiO Z0,x,Zig Z0];rw[y h,d];exact f.ext.room;rw[d];have:=f.ext.room;omega;have b:=r.toBody.ur u K;have eq:WK h=X0 {h with Z:=(i:Int)+1}:=by
  unfold WK;rw[C,u,ZhP K]
 let⟨s,G,⟨W,H⟩,y⟩:=fin _ p b (r.ga hc) rfl hc (by simp only;omega) r.E r.fh;let⟨k1,D,F,L,M,N,O⟩:=t {h with Z:=(i:Int)+1};rw[<-eq]at G k1 D F L M N O y;refine⟨_,s,rfl,G,ZgI,D,F,ZgI,ZgI,H,λh=> ?_,?_,i,w,w,h,p,u,l,?_,⟨W,H⟩,y,Z1⟩;rw[y h,k1];rw[k1];simp only;omega;let⟨_,e⟩:=ZhH.1 l;rw[eq,<-e,List.set_getElem_self]
end
end
def JN{h:Hp}(hc:h.M=xw):∀k,Y9 h k=h
 |0=>rfl
 |k+1=>by unfold Y9;rw[hc];simp
def QC(h:Hp):∀k,Y9 h (k+1)=if(Y9 h k).M then WK (Y9 h k)else Y9 h k
 |0=>by unfold Y9;cases a:h.M<;>simp[Y9,a]
 |k+1=>by
  cases a:h.M with
  |false=>rw[JN a,JN a,a];simp
  |true=>
   have e:∀j,Y9 h (j+1)=Y9 (WK h) j:=λj=>by rw[Y9.eq_2,a];simp
   rw[e<|k+1,e k];exact QC (WK h) k
def Pj(h:Hp)(a:Nat):∀b,Y9 h (a+b)=Y9 (Y9 h a) b
 |0=>rfl
 |b+1=>by rw[<-ZiS,QC,QC,Pj h a b]
structure ScansTo (h:Hp) (p:Pts) (k:Nat) (g:Hp) (q:Pts):Prop where
 rt:Rt g q
 len:I h.H<=I g.H
 keep:∀j:Nat,(j:Int)<h.Z->g.H[j]?=h.H[j]?
 aa:g.aa=h.aa
 E:g.E=h.E
 num:g.base=h.base/\g.cap=h.cap/\g.to=h.to
 Z:h.Z<=g.Z/\g.Z<=h.Z+k
 gx:∃r,q.H=p.H++r
 gw:q.aa=p.aa
 kz:g.M=xk->h.M=xk/\g.Z=h.Z+k/\(I g.H:Int)+YK q=I h.H+YK p
 tx:(I g.H:Int)<=I h.H+YK p
 whole:g.M=xw->h.M=xk->g.Z=I g.H
def Rt.fe{h:Hp}{p:Pts}(r:Rt h p):∀k,∃q,ScansTo h p k (Y9 h k) q
 |0=>⟨p,r,ZhL _,λ_ _=>rfl,rfl,rfl,⟨rfl,rfl,rfl⟩,⟨by show h.Z<=h.Z;omega,by show h.Z<=h.Z+((0:Nat):Int);omega⟩,⟨[],Z1⟩,rfl,λa=>⟨a,by show h.Z=h.Z+((0:Nat):Int);omega,rfl⟩,by show(I h.H:Int)<=_;omega,λa l=>(by rw[show Y9 h 0=h from rfl,l]at a;cases a)⟩
 |k+1=>by
  obtain⟨q,s⟩:=r.fe k;rw[QC];generalize Y9 h k=g at*;have o:=s.Z.1;have y:=s.Z.2;cases a:g.M with
  |false=>
   simp only[Zi2,ZiF];exact⟨q,s.rt,s.len,s.keep,s.aa,s.E,s.num,⟨o,Z0⟩,s.gx,s.gw,λh=>(by rw[a]at h;cases h),s.tx,λ_ h=>s.whole a h⟩
  |true=>
   simp only[ZiC];obtain⟨H,D,f⟩:=s.rt.Z a;obtain⟨t,c2,c3⟩:=s.kz a;rw[f.eq];obtain⟨L,z,n⟩:=f.H;obtain⟨F,u⟩:=s.gx;obtain⟨G,w⟩:=f.gx;obtain⟨A,B,C,K⟩:=f.num;refine⟨D,f.rt,by have:=s.len;omega,λj x=>(n j Z0).trans<|s.keep j x,f.aa.trans s.aa,f.E.trans s.E,⟨A.trans s.num.1,B.trans s.num.2.1,C.trans s.num.2.2⟩,⟨Z0,Z0⟩,⟨F++G,by rw[w,u,Ziw]⟩,f.gw.trans s.gw,λd=>⟨t,Z0,by have:=f.room d;omega⟩,by have:=f.tx;omega,λd _=>(f.rt.rest d).1⟩
def Za8{h:Hp}{p:Pts}(a:h.ok)(r:Rt h p)(hc:h.M=xk):(WK h).ok:=by
 have t:=r.mc;obtain⟨i,o⟩:=ZhW r.ip;have l:i<I h.H:=by have:=r.kz hc;omega
 obtain⟨u,q⟩:∃u,h.H[i]?=J u:=⟨_,ZhG l⟩;have y:=a.H;have n:∀g:Hp,g.ok->(X0 g).ok:=λg d=>by
  unfold X0;split;exact⟨d.base,d.cap,d.to,d.Z,d.H,d.aa,Z1,Z1,d.E,d.ex,d.eu,Z1,Z1,d.df⟩;exact d
 have k:Yf<|h.Z+1:=⟨Z0,Z0⟩;unfold WK;rw[o,Zi1,q,Zih];rw[o]at k;have f:=yA a<|a.ex u<|ZhR q;split;refine n _ ?_;obtain⟨f,x⟩:=f
 exact⟨f.base,f.cap,f.to,k,by simp;exact f.H,f.aa,f.ah,f.ak,f.E,λw t=>by
  obtain j|j:=Zjd t;exact f.ex w j;rw[j];exact x,f.eu,f.ls,f.lc,f.df⟩
 exact n _ ⟨a.base,a.cap,a.to,k,a.H,a.aa,a.ah,a.ak,a.E,a.ex,a.eu,a.ls,a.lc,a.df⟩
def QB{h:Hp}{p:Pts}(a:h.ok)(r:Rt h p):∀k,(Y9 h k).ok
 |0=>a
 |k+1=>by
  obtain⟨q,s⟩:=r.fe k;have:=QB a r k;rw[QC];generalize Y9 h k=g at*;cases d:g.M with
  |false=>simpa using this
  |true=>simpa using Za8 this s.rt d
section
def WE(h:Hp):Hp:=⟨h.base,h.cap,1-h.to,xw,0,[],[],h.H,h.aa,h.E⟩
def Q5(g:Hp)(i:Nat):Hp:= {(fwd g<|(g.E[i]?).getD 0).2.1 with E:=(fwd g<|(g.E[i]?).getD 0).2.1.E.set i (fwd g<|(g.E[i]?).getD 0).1}
def VS(g:Hp):Nat->Hp
 |0=>g
 |i+1=>Q5 (VS g i) i
def Un(g:Hp):Hp:=if 0<(I g.H) then {g with M:=xk}else {g with M:=xw,ah:=[],ak:=[]}
def Ys(h:Hp):Hp:=Un<|VS (WE h)<|I h.E
def Sf(h:Hp):Hp×Int:=if Yk h=xw then(Hp.zero,1)else if h.M then(Hp.zero,10)else(Ys h,0)
def Stands.ah{ws:Z9}{o:Ob}(s:Stands ws xw o):Stands ws xk o:=by
 obtain⟨w,f,a⟩:=s.word;have d:o.gone=xw:=by
  cases d:o.gone;rfl;rw[ZhS d]at a;cases a.1
 refine⟨s.gl,s.shape,s.an,s.ff,w,f,?_⟩;rw[ZhP (by simp[d])]at a⊢;exact⟨λ_=>Ft (by rw[a.2.1]),a.2⟩
def Tiles.ah{ws:Z9}:∀ {a:Nat} {l:Zk},Tiles ws xw a l->Tiles ws xk a l
 |_,[],h=>h
 |_,_::_,h=>⟨h.1,h.2.1.ah,Tiles.ah h.2.2⟩
def Z0E{l:Zk}(h:∀o∈l,o.gone=xw):Y2 l=WU l:=by
 have:=Ei l;have:B2 l=0:=Zbe λo a=>by rw[h o a];rfl
 omega
def KN(p:Pts):Pts:=⟨[],[],p.H,p.aa⟩
section
variable {h:Hp}{p:Pts}
def H5(h:Hp)(k a:Int)(d:k=1\/k=2):ZX (Zv<|WE h) (k+2) a=ZX (Zv h) k a:=by
 obtain rfl|rfl:=d;show 2*(h.base+(1- (1-h.to))*h.cap+a)+1=2*(h.base+h.to*h.cap+a)+1;rw[show 1- (1-h.to)=h.to by omega];show 2*(h.base+(1- (1-h.to))*h.cap+(h.cap-I h.aa)+a)+1=2*(h.base+h.to*h.cap+(h.cap-I h.aa)+a)+1;rw[show 1- (1-h.to)=h.to by omega]
def AR{w:Int}(d:Gos h p w 1 2):Gos (WE h) (KN p) w 3 4:=by
 obtain rfl|⟨k,o,f,a,rfl⟩:=d;exact .inl rfl;obtain rfl|rfl:=f;exact .inr ⟨3,o,.inl rfl,a,(H5 h 1 _<|.inl rfl).symm⟩;exact .inr ⟨4,o,.inr rfl,a,(H5 h 2 _<|.inr rfl).symm⟩
def Z45(r:Rt h p)(hc:h.M=xw):Body (WE h)<|KN p:=by
 have M:=XH.1 r.bc;have l:=r.am 1 Z0;have q:=r.am 2 Z0;simp only[VH,qK,Pts.mf,Pts.ue]at l q;refine⟨⟨XH.2 ?_,λk x=> ?_⟩,λk x o d g=> ?_,λk x o d g j u w y=> ?_,?_⟩;have A:(Zv h).cap=h.cap:=rfl;have B:(Zv h).base=h.base:=rfl;have C:(Zv h).to=h.to:=rfl;have D:(Zv h).H=I h.H:=rfl;have F:(Zv h).aa=I h.aa:=rfl;simp only[Zv,WE,ZiQ];omega;have f:k=1\/k=2\/k=3\/k=4:=Z0;obtain rfl|rfl|rfl|rfl:=f;exact ZhL 0;exact ZhL 0;exact l.ah;exact q.ah;have f:k=3\/k=4:=Z0;obtain rfl|rfl:=f;have:=l.cq o d;rw[g]at this;cases this;have:=q.cq o d;rw[g]at this;cases this;have f:k=1\/k=2\/k=3\/k=4:=Z0;obtain rfl|rfl|rfl|rfl:=f;cases d;cases d;have:=r.ptr 1 Z0 o d g j u w y;obtain⟨a,n,m,G,H,em,t,_⟩:=r.toTld.ob (k:=1) Z0 d;simp only[VH]at t;unfold Xx at this⊢;rw[ZhP Z0,ZhP (by rw[(r.rest hc).1];omega)]at this;rw[ZhS Z0];exact AR this;have:=r.ptr 2 Z0 o d g j u w y;unfold Xx at this⊢;rw[ZhP Z0,ZhP Z0]at this;rw[ZhS Z0];exact AR this;have K:=l.sum<|ZiZ _;have L:=q.sum<|ZiZ _;have w1:=Z0E l.cq;have w2:=Z0E q.cq;have z:=r.room;simp only[YK,KN,WE,ZiQ];omega
structure FlipI (h:Hp) (p:Pts) (i:Nat) (g:Hp) (q:Pts):Prop where
 body:Body g q
 ga:SY g q
 ext:Ext (WE h) (KN p) {g with E:=h.E} q
 len:I g.E=I h.E
 rest:∀j,i<=j->g.E[j]?=h.E[j]?
 uz:∀j:Nat,j<i->∀w v,h.E[j]?=J w->g.E[j]?=J v->Gos g q v 1 2/\Res g q w v
def Body.E(r:Body h p)(l:Z9):Body {h with E:=l} p:=⟨⟨r.bc,r.am⟩,r.gone,r.ptr,r.room⟩
def H4(r:Rt h p){i:Nat}(a:i<xq h.E){g:Hp}{q:Pts}(I:FlipI h p i g q):Gos g q h.E[i] 3 4:=I.ext.ou (i:=3) (j:=4) Z0 Z0<|AR<|r.E _<|Zi5 a
def Z47(r:Rt h p){i:Nat}(y:i<xq h.E){g:Hp}{q:Pts}(I:FlipI h p i g q){v:Int}{g':Hp}{t:Pts}(f:FwdTo g q (h.E[i]) v g' t):FlipI h p (i+1) (Q5 g i) t:=by
 have B:g.E[i]?=J h.E[i]:=by rw[I.rest i<|ZhL _];exact ZhG y
 have O:=H4 r y I;have e:Q5 g i= {g' with E:=g'.E.set i v}:=by
  unfold Q5;rw[B,Zih,f.fwd]
 have x:g'.E=g.E:=f.ext.E;have l:Res g' t h.E[i] v:=by
  obtain⟨K,C,P,Q⟩|B:=f.cx;obtain d|⟨k,o,S,N,D⟩:=O;exact .inl ⟨d,C.trans d⟩;obtain d|⟨T,W,M,A,F⟩:=K;exact .inl ⟨d,C.trans d⟩;obtain⟨R,_⟩:=I.body.toTld.inj Z0 Z0 N A<|D.symm.trans F;omega;exact B
 rw[e];refine⟨f.body.E _,f.ga I.ga,I.ext.trans ⟨f.ext.H,f.ext.aa,f.ext.base,f.ext.cap,f.ext.rm,f.ext.M,f.ext.Z,rfl,f.ext.td,f.ext.ot,f.ext.gx,f.ext.gw,f.ext.lq,f.ext.gone,f.ext.room⟩,?_,λj L=> ?_,λj L w u a n=> ?_⟩;simp only[Zjs,x];exact I.len;simp only;rw[ZiO Z0,x];exact I.rest j Z0;simp only at n;by_cases z:j=i;subst z;rw[Zjb (by rw[x,I.len];exact y)]at n;cases n;rw[ZhG y]at a;cases a;exact⟨f.vl,l⟩;rw[ZiO Z0,x]at n;obtain⟨G,H⟩:=I.uz j Z0 w u a n;exact⟨(show Gos g' t u 1 2 from f.ext.ou Z0 Z0 G),(show Res g' t w u from H.ext f.ext)⟩
def H8(r:Rt h p){i:Nat}(j:i<xq h.E){g:Hp}{q:Pts}(I:FlipI h p i g q):(∃v d a,FwdTo g q (h.E[i]) v d a)/\∃a,FlipI h p (i+1) (Q5 g i) a/\(fwd g<|(g.E[i]?).getD 0).2.2=0:=by
 have l:g.E[i]?=J h.E[i]:=by rw[I.rest i<|ZhL _];exact ZhG j
 have k:g.Z<=xq g.H:=by
  have:g.Z=0:=I.ext.Z;omega
 obtain⟨v,d,a,f⟩:=I.body.ij k<|.inr<|H4 r j I;exact⟨⟨v,d,a,f⟩,a,Z47 r j I f,by rw[l,Zih,f.fwd]⟩
def yt(r:Rt h p)(hc:h.M=xw):∀i,i<=xq h.E->∃q,FlipI h p i (VS (WE h) i) q
 |0,_=>⟨KN p,Z45 r hc,λo d=>(by cases d),.refl _ _,rfl,λ_ _=>rfl,λj k=>Z0⟩
 |i+1,g=>by
  obtain⟨q,I⟩:=yt r hc i Z0;obtain⟨_,f,a,_⟩:=H8 r Z0 I;exact⟨f,a⟩
def Z46(r:Rt h p)(hc:h.M=xw){g:Hp}{q:Pts}(I:FlipI h p (xq h.E) g q):Rt (Un g) (if 0<(xq g.H) then q else⟨[],[],[],[]⟩)/\(¬0<xq g.H->g.H=[]/\q.H=[]/\q.aa=[]/\∀w∈g.E,w=0):=by
 have t:g.Z=0:=I.ext.Z;have f:g.aa=[]:=I.ext.aa;have y:q.aa=[]:=I.ext.gw;have d:∀w∈g.E,Gos g q w 1 2:=λw A=>by
  obtain⟨j,D⟩:=Zi9 A;have u:=(ZhH.1 D).1;rw[I.len]at u;exact(I.uz j u _ w (ZhG u) D).1
 have F:xq g.E<=16:=by rw[I.len];exact r.fh
 by_cases x:0<xq g.H;refine⟨?_,λh=>absurd x h⟩;rw[ZhS x];unfold Un;rw[ZhS x];have b:=I.body;exact⟨⟨⟨b.bc,b.am⟩,b.gone,b.ptr,b.room⟩,F,by show 0<=g.Z;omega,by show g.Z<=xq g.H;omega,λ_=>(by show g.Z<xq g.H;omega),λh=>ZgY,λ_=>I.ga,d⟩;have a:g.H=[]:=ZjA.1 Z0;have z:q.H=[]:=by
  have:=I.body.am 1 Z0;simp only[VH,Pts.mf,a]at this;exact this.nil
 have G:∀w∈g.E,w=0:=λw A=>by
  obtain h|⟨k,o,B,l,_⟩:=d w A;exact h;obtain rfl|rfl:=B;simp only[Pts.mf,z]at l;cases l;simp only[Pts.ue,y]at l;cases l
 refine⟨?_,λ_=>⟨a,z,y,G⟩⟩;rw[ZhP x];unfold Un;rw[ZhP x];have u:=XH.1 I.body.bc;have n:∀k,(⟨[],[],[],[]⟩:Pts).at k=[]:=λk=>by unfold Pts.at;split<;>(try split)<;>(try split)<;>rfl
 have C:∀k,Zz {g with M:=xw,ah:=[],ak:=[]} k=[]:=λk=>by unfold Zz;simp only[a,f];split<;>(try split)<;>(try split)<;>rfl
 refine⟨⟨⟨XH.2 ?_,λk B=> ?_⟩,λk B o l=> ?_,λk B o l=> ?_,?_⟩,F,by show 0<=g.Z;omega,by show g.Z<=xq g.H;omega,λh=>ZgY,λ_=>⟨by show g.Z=xq g.H;rw[a,t];rfl,rfl,rfl⟩,λh=>ZgY,λw A=>.inl<|G w A⟩;simp only[Zv,ZiQ]at u⊢;omega;rw[n,C];exact ZhL _;rw[n]at l;cases l;rw[n]at l;cases l;show(xq g.H:Int)+xq g.aa+YK ⟨[],[],[],[]⟩<=g.cap;rw[a,f];simp only[Zv]at u;simp[YK,Y2];omega
def H2(r:Rt h p)(hc:h.M=xw):∃g q,FlipI h p (xq h.E) g q/\Ys h=Un g/\Rt (Un g) (if 0<(xq g.H) then q else⟨[],[],[],[]⟩)/\(¬0<xq g.H->g.H=[]/\q.H=[]/\q.aa=[]/\∀w∈g.E,w=0):=by
 obtain⟨q,I⟩:=yt r hc (xq h.E)<|ZhL _;exact⟨_,q,I,rfl,Z46 r hc I⟩
end
end
section
section
variable {h g F:Hp}{p q:Pts}
def Rt.kw(s:Rt F q)(hc:F.M=xw):YK q=0:=by
 obtain⟨_,a,d⟩:=s.rest hc;have f:=(s.am 3 Z0).sum<|ZiZ _;have g:=(s.am 4 Z0).sum<|ZiZ _;have j:=Ei q.ah;have k:=Ei q.ak;have h:YK q=Y2 q.ah+Y2 q.ak:=rfl;simp only[NT,qL,Pts.nx,Pts.ny,a,d,ZiQ]at f g;omega
end
end
end Vm
end
