import Derived.LoopNIn
import Derived.LoopIn
import Derived.Shelf.RegionOpen
import Derived.RecoverIn
import Derived.Maps.OwnIn
import Derived.Test.YtimfmcffdgpecaaGreatSMoveKeeps4
set_option linter.unusedSimpArgs false
set_option linter.unusedVariables false
set_option linter.defProp false
open Option renaming some→J,none→U
open Bool renaming true→xk,false→xw
open Go renaming undef→xy
open List renaming length→I
open Array renaming size→xz
open Go.World renaming heap→xj
open List renaming length→xq
open Array renaming size→xz
open Go.World renaming heap→xj
set_option maxHeartbeats 1000000
set_option maxRecDepth 100000
theorem ZgO{p:Prop}(h:p:=by rw[cell_of_row _ _ _ _ _ _ d.out.2.1];rfl):p:=h
theorem ZgJ{p:Prop}(h:p:=by have:=d.out.size;simp at this;omega):p:=h
theorem Zgi{p:Prop}(h:p:=by have:=heap_alloc_new (w.alloc<|.cells #[.int .i64 0,.int .i64 0,.int .i64 0,.bool xw,.int .u64 0] 71)<|.cells #[.int .i64 a,.int .i64 0,.int .i64 0,.bool xw,.int .u64 0] 71;simp_all):p:=h
theorem Zgo{p:Prop}(h:p:=by rw[cell_of_row _ _ _ _ _ _ k];rfl):p:=h
theorem Zgr{p:Prop}(h:p:=by rw[cell_of_row _ _ _ _ _ _ l];rfl):p:=h
theorem ZgC{p:Prop}(h:p:=by rw[cell_of_row _ _ _ _ _ _ n];rfl):p:=h
theorem ZgB{p:Prop}(h:p:=by rw[cell_of_row _ _ _ _ _ _ h];rfl):p:=h
theorem ZgD{p:Prop}(h:p:=by rw[cell_of_row _ _ _ _ _ _ u];rfl):p:=h
theorem Zgq{p:Prop}(h:p:=by rw[ZA _ (by omega) (by omega)];omega):p:=h
theorem ZgA{p:Prop}(h:p:=by rw[cell_of_row _ _ _ _ _ _ F];rfl):p:=h
def ZiM:=@eq_false
def Zj1:=@Array.replicate_succ
def Zj2:=@Array.replicate_zero
def Zju:=@List.push_toArray
def Zj9:=@List.append_toArray
def Zje:=@eq_true
def Zjj:=@Go.callsIn_wide
def ZjB:=@Go.grownBy_setCell'
def Zlt:=@Nat.le_of_lt
def Zkn:=@Go.run_takeDeferred
def Zkb:=@List.filter_eq_nil_iff
def Zln:=@decide_true
def ZkL:=@decide_false
def ZjD:=@decide_eq_true
def Zja:=@List.flatMap_append
def ZkY:=@List.drop_append
def ZkK:=@List.set_cons_zero
def Zk6:=@Nat.add_sub_cancel_left
def ZkS:=@List.flatMap_cons
def ZhO:=@List.getElem?_take_of_lt
def ZjL:=@List.mem_append_right
def Zil:=@List.mem_map_of_mem
section
namespace Vm
open Go Go.Proofs Go.RowKit
def Z8n{x:Int}(hx:ZB x):VC xP 104 xw [vu x]<|.bool<|V4 x:=by
 refine ZT EU follows Z2 Z2X rfl ?_;simp[N4];refine Zz (QO hx) Z1 ?_;simp_all[V4]
def Oa{x:Int}(hx:ZB x)(w:World):Calls xP 104 #[.int .u64 x] w λe a=>e=.returned (.bool<|V4 x)/\Below (xz<|xj w) w a:=
 Tr (Z8n hx) rfl rfl w
structure Words (w:World) (ws:List Int) (g o cap:Nat):Prop where
 Y:∀(i:Nat) (x:Int),ws[i]?=J x->w.cell? ⟨g,o+i,U⟩=J (.int .u64 x)
 le:I ws<=cap
 cap:cap<=maxLen
 len:I ws<=1000000
 u64:∀x∈ws,ZB x
def Vn(e:Int):List PanicEntry:=[{v:=.iface 174<|.agg #[.int .i64 e],recovered:=xw}]
def WL(o:Ob):Value:=.agg #[.int .i64 o.Y,.int .i64 o.size,.int .i64 o.M,.bool o.gone,.int .u64 o.target]
def yC(ws:List Int)(o:Ob):Ending:=
 if(I ws:Int)<o.Y+1+o.size then .panicked (Vn 2)else if XP ((ws.drop<|o.Y.toNat+1).take o.size.toNat) o.gone o.M 0=xw then .panicked (Vn 3)else .returned<|.tuple #[]
def Z4n(w:World)(ws:List Int)(g o cap:Nat)(C:Words w ws g o cap)(hg:g<xz (xj w))(t:Ob)(a:Nat)(N:t.Y=a)(A:a<I ws)(B:YE t.size t.M=xk):
  Calls xP 103 #[.slice (J ⟨g,o,U⟩) (I ws) cap,WL t] w λe w'=>e=yC ws t/\Below (xz<|xj w) w w':=by
 have hl:=C.len;have hc:=C.le;have hm:=C.cap;obtain⟨at_,size,ptrs,gone,target⟩:=t;simp only at N B;subst N;obtain⟨s1,s2,s3,s4⟩:=YN.1 B;obtain⟨m,rfl⟩:=Zhp s1;have L:=Zhf C;have r:yC ws ⟨a,m,ptrs,gone,target⟩=if(I ws:Int)<a+1+m then .panicked (Vn 2)else if XP ((ws.drop<|a+1).take m) gone ptrs 0=xw then .panicked (Vn 3)else .returned<|.tuple #[]:=rfl
 generalize yC ws ⟨a,m,ptrs,gone,target⟩=E at*;unfold WL;dsimp only;by_cases l:(I ws:Int)<a+1+m
 .rw[Zhi l]at r;have u:=Zhf r;clear r;have S:((I ws- (a+1):Nat):Int)<m:=Z0;go_enter zH,Tryz.ntmps103;go_wp2;all_goals exact⟨rfl,u.out.symm,(Zhw _ _).alloc (Zhc _) _⟩
 .rw[Zhg l]at r;have u:=Zhf r;clear r;have P:(m:Int)<=((I ws- (a+1):Nat):Int):=Z0;have Q:m<=I ws- (a+1):=Z0;have T:(I ws- (a+1)<m)=False:=ZiM Z0;have Z:m<=cap- (a+1):=Z0;have a0:m<=255:=Z0;clear C l;by_cases z:cap=a+1
  .have K:m=0:=Z0;subst K;subst z;go_enter zH,Tryz.ntmps103;go_wp2;go_loopw [26] (λi wr=>i=.int .i64 0/\Hid (Below (xz<|xj w) w wr)) (λi _=>0)
   case atStart=>exact⟨rfl,Zhf<|(Zhw _ _).alloc (Zhc _) _⟩
   case round=>
    obtain⟨rfl,X⟩:=hrel;go_wp2;go_end0
    exact⟨u.out.symm,X.out⟩
  .go_enter zH,Tryz.ntmps103;go_wp2
   go_loopw [26] (λi wr=>∃k:Nat,i=.int .i64 k/\k<=m/\Hid (Below (xz<|xj w) w wr/\wr.heap[xz<|xj w]?=J (.cells #[.int .i64 a,.int .i64 m,.int .i64 ptrs,.bool gone,.int .u64 target] 71 (0,0))/\
     XP ((ws.drop<|a+1).take m) gone ptrs 0=XP (((ws.drop<|a+1).take m).drop k) gone ptrs k)) (λi _=>m- (intOf i).toNat)
   case atStart=>exact⟨0,rfl,Z0,Zhf ⟨(Zhw _ _).alloc (Zhc _) _,ZhB w _,rfl⟩⟩
   case round=>
    obtain⟨k,rfl,hk,d⟩:=hrel;by_cases A:k<m
    .obtain⟨x,D⟩:∃x,ws[a+1+k]?=J x:=⟨_,Zh8 Z0⟩;have W:ZB x:=L.out.u64 x<|Zhh D;have M:((ws.drop<|a+1).take m)[k]?=J x:=by
      rw[ZhL,Zhi A,ZhF];exact D
     have c0:wr.cell? ⟨g,o+(a+1)+k,U⟩=J (.int .u64 x):=by
      rw[Zik];exact(d.out.1.cell (p:=⟨g,o+(a+1+k),U⟩) hg).trans (L.out.Y _ _ D)
     have c1:wr.cell? ⟨xz<|xj w,1,U⟩=J (.int .i64 m):=ZgO;have c2:wr.cell? ⟨xz<|xj w,2,U⟩=J (.int .i64 ptrs):=ZgO;have c3:wr.cell? ⟨xz<|xj w,3,U⟩=J (.bool gone):=ZgO;have q:=Zau (gone:=gone) (ptrs:=ptrs) M;have R:(k:Int)<m:=Z0;have G:=Y2 d.out.2.1;clear D M;have stop:XP (((ws.drop<|a+1).take m).drop k) gone ptrs k=xw->E=.panicked (Vn 3):=λh=>by
      rw[u.out,d.out.2.2,h,Zhi rfl]
     cases gone
     .by_cases hp:(k:Int)<ptrs
      .cases H:V4 x
       .have f:=Zhf<|stop Zgd;clear stop q;go_wp2_with (go_at_call 104;refine(Oa W _).mono ?_;rintro e w1 ⟨rfl,j⟩;have n:=Zhf j;clear j)
        exact⟨rfl,f.out.symm,d.out.1.trans<|n.out.mono d.out.1.size⟩
       .have y:=Zhf<|q.trans (by simp[H]:_=XP (((ws.drop<|a+1).take m).drop<|k+1) xw ptrs (k+1));clear stop q;go_wp2_with (go_at_call 104;refine(Oa W _).mono ?_;rintro e w1 ⟨rfl,j⟩;have n:=Zhf j;clear j)
        go_wp2;go_roundw
        case rel=>
         exact⟨k+1,by go_num,Z0,Zhf ⟨d.out.1.trans<|n.out.mono d.out.1.size,(n.out.block _ G).trans d.out.2.1,d.out.2.2.trans y.out⟩⟩
        case measure=>grind [intOf]
      .have y:=Zhf<|q.trans (by simp[hp]:_=XP (((ws.drop<|a+1).take m).drop<|k+1) xw ptrs (k+1));clear stop q;go_wp2;go_roundw
       case rel=>exact⟨k+1,by go_num,Z0,Zhf ⟨d.out.1,d.out.2.1,d.out.2.2.trans y.out⟩⟩
       case measure=>grind [intOf]
     .by_cases Y:x=0
      .subst Y;have y:=Zhf<|q.trans (by simp[V4]:_=XP (((ws.drop<|a+1).take m).drop<|k+1) xk ptrs (k+1));clear stop q;go_wp2;go_roundw
       case rel=>exact⟨k+1,by go_num,Z0,Zhf ⟨d.out.1,d.out.2.1,d.out.2.2.trans y.out⟩⟩
       case measure=>grind [intOf]
      .have f:=Zhf<|stop Zgd;clear stop q;go_wp2;exact⟨rfl,f.out.symm,d.out.1⟩
    .have:k=m:=Z0;subst this;have F:=d.out.2.2;have O:((ws.drop<|a+1).take k).drop k=[]:=ZiU Zgd;rw[O]at F;have f:=Zhf<|u.out.trans (by rw[F];rfl:_=Ending.returned (.tuple #[]));clear F O;go_wp2;go_end0
     exact⟨f.out.symm,d.out.1⟩
end Vm
namespace Vm
open Go Go.Proofs Go.RowKit
def Z6O(w:World):Sem.run xP (binOp .neq 175 .nilFunc .nilFunc) w=.ok (.bool xw) w:=Zh2
def C0(w:World)(f:FuncId)(vs:Array Value):Sem.run xP (binOp .neq 175 (.func (.func f) #[] vs) .nilFunc) w=.ok (.bool xk) w:=Zh2
def jl{w:World}{b T v0 v1 d f v4}(h:w.heap[b]?=J (.cells #[v0,v1,d,f,v4] T (0,0)))O:
  ((w.alloc O).cell? ⟨b,0,U⟩=J v0/\(w.alloc O).cell? ⟨b,1,U⟩=J v1/\(w.alloc O).cell? ⟨b,2,U⟩=J d/\(w.alloc O).cell? ⟨b,3,U⟩=J f/\(w.alloc O).cell? ⟨b,4,U⟩=J v4)/\
  (w.alloc O).frozen? ⟨b,0,U⟩=xw/\(w.alloc O).frozen? ⟨b,1,U⟩=xw/\(w.alloc O).frozen? ⟨b,2,U⟩=xw/\(w.alloc O).frozen? ⟨b,3,U⟩=xw/\(w.alloc O).frozen? ⟨b,4,U⟩=xw:=by
 have a:(w.alloc O).heap[b]?=J _:=(Zht _ _ _ Zgc).trans h;refine⟨⟨?_,?_,?_,?_,?_⟩,YA a,YA a,YA a,YA a,YA a⟩<;>(rw[Zhl _ _ _ _ _ _ a];rfl)
def SI(a:Nat)(x:Int):Ending:=if(ZS x).2.2=0 then .returned (WL ⟨a,(ZS x).1,(ZS x).2.1,xw,0⟩)else .panicked<|Vn 3
def Z2M(w:World)(ws:List Int)(g o cap:Nat)(n:Words w ws g o cap)(L:g<xz (xj w))(a:Nat)(x:Int)(hx:ws[a]?=J x):
  Calls xP 102 #[.slice (J ⟨g,o,U⟩) (I ws) cap,.int .i64 a,.nilFunc] w λe N=>e=SI a x/\Below (xz<|xj w) w N:=by
 have Y:=n.len;have X:=n.le;have Z:=n.cap;have M:a<I ws:=(Zh9.1 hx).1;have A:(a:Int)<I ws:=Z0;have q:ZB x:=n.u64 x<|Zhh hx;have C:=n.Y a x hx;have z:∀W,Below (xz<|xj w) w W->W.cell? ⟨g,o+a,U⟩=J (.int .u64 x):=λW K=>(K.cell (p:=⟨g,o+a,U⟩) L).trans C;have l:SI a x=if(ZS x).2.2=0 then .returned (WL ⟨a,(ZS x).1,(ZS x).2.1,xw,0⟩)else .panicked<|Vn 3:=rfl
 generalize SI a x=E at*;have y:=Zhf z;have B:=Z6O;clear n hx z;by_cases t:(ZS x).2.2=0
 .rw[Zhi t]at l;have r:=Zhf l;clear l;go_enter RD,Tryz.ntmps102
  go_wp2_with (first
   |(go_at_call 24;refine(SE q _).mono ?_;rintro e w1 ⟨rfl,f⟩;have d:=Zhf f;have D:=y.out w1<|((((Zhw _ w).alloc (Zhc _) _).alloc (by simp) _).trans<|f.mono (by simp;omega));clear f)
   | (go_at_call 81;refine(JT q _).mono ?_;rintro e w2 ⟨rfl,h⟩;have j:=Zhf h
      have H:=d.out.block;have r0:w2.heap[xz<|xj w]?=J (.cells #[.int .i64 0,.int .i64 0,.int .i64 0,.bool xw,.int .u64 0] 71 (0,0)):=(h.block _ ZgJ).trans<|(d.out.block _ Zge).trans<|(Zht _ _ _ Z1).trans<|ZhB w _;have u:w2.heap[xz (xj w)+1]?=J (.cells #[.int .i64 a,.int .i64 0,.int .i64 0,.bool xw,.int .u64 0] 71 (0,0)):=(h.block _ ZgJ).trans<|(d.out.block _ Z1).trans Zgi;obtain⟨⟨O,P,Q,R,S⟩,y0,y1,y2,y3,y4⟩:=jl r0<|.cells #[.int .i64 (ZS x).1,.int .i64 (ZS x).2.1] 69;obtain⟨⟨p0,p1,p2,p3,p4⟩,q0,q1,q2,q3,q4⟩:=jl u<|.cells #[.int .i64 (ZS x).1,.int .i64 (ZS x).2.1] 69;have T:=Zhf<|And.intro r0 u;clear h H r0 u))
  refine Zi0 (v:=WL ⟨a,(ZS x).1,(ZS x).2.1,xw,0⟩) ?_ rfl ⟨r.out.symm,?_⟩
  .simp[results,Tryz.results102,go_sem,WL,O,P,Q,R,S]
  have k:=(((Zhw _ w).alloc (Zhc _)<|.cells #[.int .i64 0,.int .i64 0,.int .i64 0,.bool xw,.int .u64 0] 71).alloc Z1<|.cells #[.int .i64 a,.int .i64 0,.int .i64 0,.bool xw,.int .u64 0] 71).trans<|d.out.mono Zge;have G:=(k.trans<|j.out.mono (by have:=k.size;omega)).alloc (by have:=k.size;have:=j.out.size;omega)<|.cells #[.int .i64 (ZS x).1,.int .i64 (ZS x).2.1] 69;exact((((((G.setCell (p:=⟨xz (xj w)+1,1,U⟩) Z1 _).setCell (p:=⟨xz (xj w)+1,2,U⟩) Z1 _).setCell (p:=⟨xz<|xj w,0,U⟩) (Zhc _) _).setCell (p:=⟨xz<|xj w,1,U⟩) (Zhc _) _).setCell (p:=⟨xz<|xj w,2,U⟩) (Zhc _) _).setCell (p:=⟨xz<|xj w,3,U⟩) (Zhc _) _).setCell (p:=⟨xz<|xj w,4,U⟩) (Zhc _) _
 .rw[Zhg t]at l;have r:=Zhf l;clear l;have F:((ZS x).2.2=0)=False:=ZiM t;go_enter RD,Tryz.ntmps102
  go_wp2_with (first
   |(go_at_call 24;refine(SE q _).mono ?_;rintro e w1 ⟨rfl,f⟩;have d:=Zhf f;have D:=y.out w1<|((((Zhw _ w).alloc (Zhc _) _).alloc (by simp) _).trans<|f.mono (by simp;omega));clear f)
   |(go_at_call 81;refine(JT q _).mono ?_;rintro e w2 ⟨rfl,h⟩;have j:=Zhf h;clear h))
  refine⟨rfl,r.out.symm,?_⟩;have k:=(((Zhw _ w).alloc (Zhc _)<|.cells #[.int .i64 0,.int .i64 0,.int .i64 0,.bool xw,.int .u64 0] 71).alloc Z1<|.cells #[.int .i64 a,.int .i64 0,.int .i64 0,.bool xw,.int .u64 0] 71).trans<|d.out.mono Zge;exact(k.trans<|j.out.mono (by have:=k.size;omega)).alloc (by have:=k.size;have:=j.out.size;omega) _
end Vm
namespace Vm
open Go Go.Proofs Go.RowKit
def Py(s p:Int)(w:World):Calls xP 96 #[.agg #[.int .i64 s,.int .i64 p]] w λe a=>e=.returned (.bool<|YE s p)/\Below (xz<|xj w) w a:=
 Tr OX rfl rfl w
structure Shps (w:World) (shs:List<|Int×Int) (bs:Nat) (v:Value):Prop where
 box:w.heap[bs]?=J (.cells #[v] 164 (0,0))
 val:(∃g o cap,v=.slice (J ⟨g,o,U⟩) (I shs) cap/\I shs<=cap/\cap<=maxLen/\g<xz (xj w)/\∀(i:Nat) (x:Int×Int),shs[i]?=J x->w.cell? ⟨g,o+i*2,U⟩=J (.int .i64 x.1)/\w.cell? ⟨g,o+i*2+1,U⟩=J (.int .i64 x.2))\/
  (∃a cap,v=.slice a 0 cap/\shs=[])
def Z49(w:World)(shs:List<|Int×Int)(bt h:Nat)(v:Value)(x:I shs<=1000000)(d:Shps w shs h v)(f:w.heap[bt]?=J (.cells #[.int .i64<|I shs] 3 (0,0))):
  Calls xP 98 #[.pointer<|J ⟨bt,0,U⟩,.pointer<|J ⟨h,0,U⟩] w λe p=>e=.panicked (Vn 3)/\Below (xz<|xj w) w p:=by
 have k:w.cell? ⟨bt,0,U⟩=J (.int .i64<|I shs):=by rw[Zhl _ _ _ _ _ _ f];rfl
 have n:=Y2 f;have j:=Y2 d.box;have q:w.cell? ⟨h,0,U⟩=J v:=by rw[Zhl _ _ _ _ _ _ d.box];rfl
 obtain⟨g,o,cap,rfl,r,t,u,l⟩|⟨a,cap,rfl,rfl⟩:=d.val
 .clear l d f;go_enter Ki,Tryz.ntmps98;go_wp2;exact⟨rfl,rfl,(Zhw _ _).alloc (Zhc _) _⟩
 .clear d f;simp only[ZiI]at k;go_enter Ki,Tryz.ntmps98;go_wp2;exact⟨rfl,rfl,(Zhw _ _).alloc (Zhc _) _⟩
def Z48(w:World)(shs:List<|Int×Int)(bt j t:Nat)(v:Value)(x:Int×Int)(K:I shs<=1000000)(f:Shps w shs j v)(k:w.heap[bt]?=J (.cells #[.int .i64 t] 3 (0,0)))(hx:shs[t]?=J x)(r:YE x.1 x.2=xw):
  Calls xP 98 #[.pointer<|J ⟨bt,0,U⟩,.pointer<|J ⟨j,0,U⟩] w λe A=>e=.panicked (Vn 3)/\Below (xz<|xj w) w A:=by
 have B:w.cell? ⟨bt,0,U⟩=J (.int .i64 t):=Zgo;have u:=Y2 k;have p:=Y2 f.box;have y:t<I shs:=(Zh9.1 hx).1;have z:¬t=I shs:=Z0;have q:(t:Int)<I shs:=Z0;have C:w.cell? ⟨j,0,U⟩=J v:=by rw[Zhl _ _ _ _ _ _ f.box];rfl
 obtain⟨g,o,cap,rfl,F,G,H,n⟩|⟨a,cap,rfl,rfl⟩:=f.val
 .obtain⟨D,d1⟩:=n t x hx;have l:=Py x.1 x.2;rw[r]at l;clear n f k hx r;go_enter Ki,Tryz.ntmps98;go_wp2_with (go_at_call 96;refine(l _).mono ?_;rintro e w1 ⟨rfl,d⟩;have h:=Zhf d;clear d)
  exact⟨rfl,rfl,((Zhw _ w).alloc (Zhc _) _).trans<|h.out.mono Z1⟩
 grind
def Z4a(w:World)(shs:List<|Int×Int)(bt f t:Nat)(v:Value)(x:Int×Int)(hl:I shs<=1000000)(y:Shps w shs f v)(l:w.heap[bt]?=J (.cells #[.int .i64 t] 3 (0,0)))(hx:shs[t]?=J x)(L:YE x.1 x.2=xk)(q:f≠bt)
  (r:∀g o cap,v=.slice (J ⟨g,o,U⟩) (I shs) cap->g≠bt):
  Calls xP 98 #[.pointer<|J ⟨bt,0,U⟩,.pointer<|J ⟨f,0,U⟩] w λe M=>e=.returned (.agg #[.int .i64 x.1,.int .i64 x.2])/\w.grownBy M (J bt)/\M.heap[bt]?=J (.cells #[.int .i64 ((t+1:Nat):Int)] 3 (0,0)):=by
 have N:w.cell? ⟨bt,0,U⟩=J (.int .i64 t):=Zgr;have h:=Y2 l;have n:=Y2 y.box;have R:t<I shs:=(Zh9.1 hx).1;have u:¬t=I shs:=Z0;have K:(t:Int)<I shs:=Z0;have O:w.cell? ⟨f,0,U⟩=J v:=by rw[Zhl _ _ _ _ _ _ y.box];rfl
 have hf:=YA (o:=0) l;have G:¬f=bt:=q;have H:¬bt=f:=λe=>q e.symm;obtain⟨g,o,cap,rfl,h1,h2,D,F⟩|⟨a,cap,rfl,rfl⟩:=y.val
 .obtain⟨P,d1⟩:=F t x hx;have hg:=r g o cap rfl;have C:=Py x.1 x.2;rw[L]at C;have B:=Zhf l;clear F y l hx L r;go_enter Ki,Tryz.ntmps98
  go_wp2_with (go_at_call 96;refine(C _).mono ?_;rintro e w1 ⟨rfl,d⟩
               have z:=Zhf d;have s1:=d.size;have k0:w1.cell? ⟨bt,0,U⟩=J (.int .i64 t):=(d.cell (p:=⟨bt,0,U⟩) Zge).trans<|(ZiC _ _ _ h).trans N;have k1:w1.frozen? ⟨bt,0,U⟩=xw:=YA<|(d.block bt Zge).trans<|(Zht _ _ _ h).trans B.out;have k2:w1.cell? ⟨f,0,U⟩=J (.slice (J ⟨g,o,U⟩) (I shs) cap):=(d.cell (p:=⟨f,0,U⟩) Zge).trans<|(ZiC _ _ _ n).trans O;have k3:w1.cell? ⟨g,o+t*2,U⟩=J (.int .i64 x.1):=(d.cell (p:=⟨g,o+t*2,U⟩) Zge).trans<|(ZiC _ _ _ D).trans P;have k4:w1.cell? ⟨g,o+t*2+1,U⟩=J (.int .i64 x.2):=(d.cell (p:=⟨g,o+t*2+1,U⟩) Zge).trans<|(ZiC _ _ _ D).trans d1;have r0:w1.heap[xz<|xj w]?=J (.cells #[.int .i64 0,.int .i64 0] 69 (0,0)):=(d.block _ Z1).trans<|ZhB w _;have X:w1.cell? ⟨xz<|xj w,0,U⟩=J (.int .i64 0):=by rw[Zhl _ _ _ _ _ _ r0];rfl
               have Y:w1.cell? ⟨xz<|xj w,1,U⟩=J (.int .i64 0):=by rw[Zhl _ _ _ _ _ _ r0];rfl
               have y0:=YA (o:=0) r0;have y1:=YA (o:=1) r0;have T:¬xz (xj w)=bt:=Z0;have W:¬bt=xz (xj w):=Z0;have Z:=Zhf r0;clear d r0)
  have j:Below (xz<|xj w) w w1:=((Zhw _ w).alloc (Zhc _)<|.cells #[.int .i64 0,.int .i64 0] 69).trans<|z.out.mono Z1;have S:w1.heap[bt]?=J (.cells #[.int .i64 t] 3 (0,0)):=(j.block bt h).trans B.out;refine Zi0 (v:=.agg #[.int .i64 x.1,.int .i64 x.2]) ?_ rfl ⟨rfl,⟨j.os,j.tape,j.output,?_,λk Q u=> ?_⟩,?_⟩
  .simp[results,Tryz.results98,go_sem,X,Y,T,W]
  simp[World.setCell];exact j.size;have A:k≠bt:=λe=>u (by rw[e]);rw[Zhv _ _ _ _ Zgc,Zhv _ _ _ _ Zgc,Zhv _ _ _ _ A];exact j.block k Q;simp_all[Zhv,World.setCell,ZhT]
 grind
end Vm
namespace Vm
open Go Go.Proofs Go.RowKit
def Z2N(w:World)(f:FuncId)(vs:Array Value)(ws:List Int)(g o cap:Nat)(q:Words w ws g o cap)(O:g<xz (xj w))(a:Nat)(x:Int)(hx:ws[a]?=J x)(y:¬(adr x).2=0):
  Calls xP 102 #[.slice (J ⟨g,o,U⟩) (I ws) cap,.int .i64 a,.func (.func f) #[] vs] w λe Q=>e=SI a x/\Below (xz<|xj w) w Q:=by
 have hl:=q.len;have hc:=q.le;have hm:=q.cap;have P:a<I ws:=(Zh9.1 hx).1;have C:(a:Int)<I ws:=Z0;have r:ZB x:=q.u64 x<|Zhh hx;have F:=q.Y a x hx;have B:∀W,Below (xz<|xj w) w W->W.cell? ⟨g,o+a,U⟩=J (.int .u64 x):=λW M=>(M.cell (p:=⟨g,o+a,U⟩) O).trans F;have n:SI a x=if(ZS x).2.2=0 then .returned (WL ⟨a,(ZS x).1,(ZS x).2.1,xw,0⟩)else .panicked<|Vn 3:=rfl
 generalize SI a x=E at*;have A:=Zhf B;have N:=λW=>C0 W f vs;have D:((adr x).2=0)=False:=ZiM y;clear q hx B;by_cases u:(ZS x).2.2=0
 .rw[Zhi u]at n;have t:=Zhf n;clear n;go_enter RD,Tryz.ntmps102
  go_wp2_with (first
   |(go_at_call 24;refine(SE r _).mono ?_;rintro e w1 ⟨rfl,h⟩;have d:=Zhf h;have G:=A.out w1<|((((Zhw _ w).alloc (Zhc _) _).alloc (by simp) _).trans<|h.mono (by simp;omega));clear h)
   | (go_at_call 81;refine(JT r _).mono ?_;rintro e w2 ⟨rfl,j⟩;have k:=Zhf j
      have L:=d.out.block;have r0:w2.heap[xz<|xj w]?=J (.cells #[.int .i64 0,.int .i64 0,.int .i64 0,.bool xw,.int .u64 0] 71 (0,0)):=(j.block _ ZgJ).trans<|(d.out.block _ Zge).trans<|(Zht _ _ _ Z1).trans<|ZhB w _;have z:w2.heap[xz (xj w)+1]?=J (.cells #[.int .i64 a,.int .i64 0,.int .i64 0,.bool xw,.int .u64 0] 71 (0,0)):=(j.block _ ZgJ).trans<|(d.out.block _ Z1).trans Zgi;obtain⟨⟨R,S,T,X,Y⟩,y0,y1,y2,y3,y4⟩:=jl r0<|.cells #[.int .i64 (ZS x).1,.int .i64 (ZS x).2.1] 69;obtain⟨⟨p0,p1,p2,p3,p4⟩,q0,q1,q2,q3,q4⟩:=jl z<|.cells #[.int .i64 (ZS x).1,.int .i64 (ZS x).2.1] 69;have Z:=Zhf<|And.intro r0 z;clear j L r0 z))
  refine Zi0 (v:=WL ⟨a,(ZS x).1,(ZS x).2.1,xw,0⟩) ?_ rfl ⟨t.out.symm,?_⟩
  .simp[results,Tryz.results102,go_sem,WL,R,S,T,X,Y]
  have l:=(((Zhw _ w).alloc (Zhc _)<|.cells #[.int .i64 0,.int .i64 0,.int .i64 0,.bool xw,.int .u64 0] 71).alloc Z1<|.cells #[.int .i64 a,.int .i64 0,.int .i64 0,.bool xw,.int .u64 0] 71).trans<|d.out.mono Zge;have K:=(l.trans<|k.out.mono (by have:=l.size;omega)).alloc (by have:=l.size;have:=k.out.size;omega)<|.cells #[.int .i64 (ZS x).1,.int .i64 (ZS x).2.1] 69;exact((((((K.setCell (p:=⟨xz (xj w)+1,1,U⟩) Z1 _).setCell (p:=⟨xz (xj w)+1,2,U⟩) Z1 _).setCell (p:=⟨xz<|xj w,0,U⟩) (Zhc _) _).setCell (p:=⟨xz<|xj w,1,U⟩) (Zhc _) _).setCell (p:=⟨xz<|xj w,2,U⟩) (Zhc _) _).setCell (p:=⟨xz<|xj w,3,U⟩) (Zhc _) _).setCell (p:=⟨xz<|xj w,4,U⟩) (Zhc _) _
 .rw[Zhg u]at n;have t:=Zhf n;clear n;have H:((ZS x).2.2=0)=False:=ZiM u;go_enter RD,Tryz.ntmps102
  go_wp2_with (first
   |(go_at_call 24;refine(SE r _).mono ?_;rintro e w1 ⟨rfl,h⟩;have d:=Zhf h;have G:=A.out w1<|((((Zhw _ w).alloc (Zhc _) _).alloc (by simp) _).trans<|h.mono (by simp;omega));clear h)
   |(go_at_call 81;refine(JT r _).mono ?_;rintro e w2 ⟨rfl,j⟩;have k:=Zhf j;clear j))
  refine⟨rfl,t.out.symm,?_⟩;have l:=(((Zhw _ w).alloc (Zhc _)<|.cells #[.int .i64 0,.int .i64 0,.int .i64 0,.bool xw,.int .u64 0] 71).alloc Z1<|.cells #[.int .i64 a,.int .i64 0,.int .i64 0,.bool xw,.int .u64 0] 71).trans<|d.out.mono Zge;exact(l.trans<|k.out.mono (by have:=l.size;omega)).alloc (by have:=l.size;have:=k.out.size;omega) _
def FS(w:World)(vs:Array Value)(ws:List Int)(g o cap:Nat)(h:Words w ws g o cap)(G:g<xz (xj w))(a:Nat)(x:Int)(hx:ws[a]?=J x)(A:(adr x).2=0)
  (d:∀W,Below (xz<|xj w) w W->Calls xP 98 vs W λe W'=>e=.panicked (Vn 3)/\Below (xz<|xj W) W W'):
  Calls xP 102 #[.slice (J ⟨g,o,U⟩) (I ws) cap,.int .i64 a,.func (.func 98) #[] vs] w λe C=>e=.panicked (Vn 3)/\Below (xz<|xj w) w C:=by
 have H:=h.len;have F:=h.le;have K:=h.cap;have z:a<I ws:=(Zh9.1 hx).1;have t:(a:Int)<I ws:=Z0;have B:ZB x:=h.u64 x<|Zhh hx;have D:=h.Y a x hx;have y:=λW=>C0 W 98 vs;have u:=Zhf d;clear h hx d;go_enter RD,Tryz.ntmps102
 go_wp2_with (first
  | (go_at_call 24;refine(SE B _).mono ?_;rintro e w1 ⟨rfl,f⟩
     have r:Below (xz<|xj w) w w1:=((((Zhw _ w).alloc (Zhc _) _).alloc Z1 _).trans<|f.mono Zge);have k:w1.heap[xz (xj w)+1]?=J (.cells #[.int .i64 a,.int .i64 0,.int .i64 0,.bool xw,.int .u64 0] 71 (0,0)):=(f.block _ Z1).trans Zgi;have p3:w1.cell? ⟨xz (xj w)+1,3,U⟩=J (.bool xw):=Zgo;have p4:w1.cell? ⟨xz (xj w)+1,4,U⟩=J (.int .u64 0):=Zgo;have L:=YA (o:=3) k;have M:=YA (o:=4) k;have n:=Zhf r;clear f r k)
  |(go_at_call 98;refine(u.out _ ?_).mono ?_;rotate_left;rintro e w2 ⟨rfl,j⟩;have l:=Zhf j;clear j))
 case refine_1=>exact(n.out.setCell (p:=⟨xz (xj w)+1,3,U⟩) Z1 _).setCell (p:=⟨xz (xj w)+1,4,U⟩) Z1 _
 case refine_2=>
  have q:=(n.out.setCell (p:=⟨xz (xj w)+1,3,U⟩) Z1<|.bool xk).setCell (p:=⟨xz (xj w)+1,4,U⟩) Z1<|.int .u64 (adr x).1;exact⟨rfl,rfl,q.trans<|l.out.mono q.size⟩
theorem Z4f{w W:World}{r}(h:w.grownBy W r){p}(f:xz (xj w)<=p.block)u:w.grownBy (W.setCell p u) r:=
 ⟨h.os,h.tape,h.output,by simpa[World.setCell]using h.size,λk d a=>(Zhv _ _ _ _ Z0).trans<|h.block k d a⟩
def Z2L(w:World)(vs:Array Value)(ws:List Int)(g o cap:Nat)(r:Words w ws g o cap)(hg:g<xz (xj w))(a:Nat)(x:Int)(hx:ws[a]?=J x)(Q:(adr x).2=0)
  (bt:Nat) (O:Obj) (s p:Int) (L:bt<xz (xj w))
  (f:∀W,Below (xz<|xj w) w W->Calls xP 98 vs W λe W'=>e=.returned (.agg #[.int .i64 s,.int .i64 p])/\W.grownBy W' (J bt)/\W'.heap[bt]?=J O):
  Calls xP 102 #[.slice (J ⟨g,o,U⟩) (I ws) cap,.int .i64 a,.func (.func 98) #[] vs] w λe H=>e=.returned (WL ⟨a,s,p,xk,(adr x).1⟩)/\w.grownBy H (J bt)/\H.heap[bt]?=J O:=by
 have hl:=r.len;have hc:=r.le;have hm:=r.cap;have P:a<I ws:=(Zh9.1 hx).1;have G:(a:Int)<I ws:=Z0;have R:ZB x:=r.u64 x<|Zhh hx;have c0:=r.Y a x hx;have M:=λW=>C0 W 98 vs;have K:=Zhf f;clear r hx f;go_enter RD,Tryz.ntmps102
 go_wp2_with (first
  | (go_at_call 24;refine(SE R _).mono ?_;rintro e w1 ⟨rfl,j⟩
     have D:Below (xz<|xj w) w w1:=((((Zhw _ w).alloc (Zhc _) _).alloc Z1 _).trans<|j.mono Zge);have t:w1.heap[xz (xj w)+1]?=J (.cells #[.int .i64 a,.int .i64 0,.int .i64 0,.bool xw,.int .u64 0] 71 (0,0)):=(j.block _ Z1).trans Zgi;have p3:w1.cell? ⟨xz (xj w)+1,3,U⟩=J (.bool xw):=by rw[Zhl _ _ _ _ _ _ t];rfl
     have p4:w1.cell? ⟨xz (xj w)+1,4,U⟩=J (.int .u64 0):=by rw[Zhl _ _ _ _ _ _ t];rfl
     have q3:=YA (o:=3) t;have q4:=YA (o:=4) t;have r0:w1.heap[xz<|xj w]?=J (.cells #[.int .i64 0,.int .i64 0,.int .i64 0,.bool xw,.int .u64 0] 71 (0,0)):=(j.block _ Zge).trans<|(Zht _ _ _ Z1).trans<|ZhB w _;have z:=Zhf<|And.intro r0 t;have C:=Zhf D;clear j D r0 t)
  | (go_at_call 98;refine(K.out _ ?_).mono ?_;rotate_left;rintro e w2 ⟨rfl,l,u⟩
     have d:=Zhf l;have A:=Zhf u;have n:w2.heap[xz (xj w)+1]?=J (.cells #[.int .i64 a,.int .i64 0,.int .i64 0,.bool xk,.int .u64 (adr x).1] 71 (0,0)):=(l.block _ (by simp[World.setCell];exact Y2 z.out.2) Zge).trans (by simp[World.setCell,ZhT,z.out.2]);have h:w2.heap[xz<|xj w]?=J (.cells #[.int .i64 0,.int .i64 0,.int .i64 0,.bool xw,.int .u64 0] 71 (0,0)):=(l.block _ (by simp[World.setCell];exact Y2 z.out.1) Zge).trans (by simp[World.setCell,ZhT,z.out.1]);have s0:w2.cell? ⟨xz (xj w)+1,0,U⟩=J (.int .i64 a):=ZgC;have s1:w2.cell? ⟨xz (xj w)+1,1,U⟩=J (.int .i64 0):=ZgC;have s2:w2.cell? ⟨xz (xj w)+1,2,U⟩=J (.int .i64 0):=ZgC;have s3:w2.cell? ⟨xz (xj w)+1,3,U⟩=J (.bool xk):=ZgC;have s4:w2.cell? ⟨xz (xj w)+1,4,U⟩=J (.int .u64 (adr x).1):=ZgC;have S:w2.cell? ⟨xz<|xj w,0,U⟩=J (.int .i64 0):=ZgB;have T:w2.cell? ⟨xz<|xj w,1,U⟩=J (.int .i64 0):=ZgB;have X:w2.cell? ⟨xz<|xj w,2,U⟩=J (.int .i64 0):=ZgB;have Y:w2.cell? ⟨xz<|xj w,3,U⟩=J (.bool xw):=ZgB;have Z:w2.cell? ⟨xz<|xj w,4,U⟩=J (.int .u64 0):=ZgB;have u1:=YA (o:=1) n;have u2:=YA (o:=2) n;have v0:=YA (o:=0) h;have v1:=YA (o:=1) h;have v2:=YA (o:=2) h;have v3:=YA (o:=3) h;have v4:=YA (o:=4) h;clear l u h n))
 case refine_1=>exact(C.out.setCell (p:=⟨xz (xj w)+1,3,U⟩) Z1 _).setCell (p:=⟨xz (xj w)+1,4,U⟩) Z1 _
 next=>
  have q:=(C.out.setCell (p:=⟨xz (xj w)+1,3,U⟩) Z1<|.bool xk).setCell (p:=⟨xz (xj w)+1,4,U⟩) Z1<|.int .u64 (adr x).1;have N:w.grownBy w2<|J bt:=⟨d.out.os.trans q.os,d.out.tape.trans q.tape,d.out.output.trans q.output,ZhD q.size d.out.size,λk F B=>(d.out.block k (Zhj F q.size) B).trans<|q.block k F⟩;have k1:bt≠xz (xj w)+1:=Z0;have y:bt≠xz (xj w):=Z0;clear q;refine Zi0 (v:=WL ⟨a,s,p,xk,(adr x).1⟩) ?_ rfl ⟨rfl,?_,?_⟩
  .simp[results,Tryz.results102,go_sem,WL,S,T,X,Y,Z]
  grind [Z4f];rw[Zhv _ _ _ _ y,Zhv _ _ _ _ y,Zhv _ _ _ _ y,Zhv _ _ _ _ y,Zhv _ _ _ _ y,Zhv _ _ _ _ k1,Zhv _ _ _ _ k1];exact A.out
end Vm
namespace Vm
open Go Go.Proofs Go.RowKit Go.Shelf
def UH(W:World)(bl:Nat):Option Nat:=(W.cell? ⟨bl,0,U⟩).bind Value.ownBlock
structure KpW (bl base:Nat) (A B:World):Prop where
 size:xz (xj A)<=xz (xj B)
 same:∀k o,A.heap[k]?=J o->o.isCells=xk->k≠bl->(k<base\/UH A bl≠J k)->B.heap[k]?=J o
 row:∀k,k<xz (xj A)->UH B bl=J k->UH A bl=J k
theorem KpW.trans{bl base A B C}(h:KpW bl base A B)(k:KpW bl base B C):KpW bl base A C:=
 ⟨ZhD h.size k.size,λi o a g j d=>k.same i o (h.same i o a g j d) g j (d.imp id λf e=>f<|h.row i Zgc e),λi a d=>h.row i a<|k.row i (Zhj a h.size) d⟩
theorem KpW.put{bl base W l o}d(j:W.heap[l]?=J o)(n:o.isCells=xw)(g:bl≠l):KpW bl base W<|W.putObj l d:=by
 have a:(W.putObj l d).cell? ⟨bl,0,U⟩=W.cell? ⟨bl,0,U⟩:=ZhX<|ZhR Z0;refine⟨Z1,λk q h f _ _=> ?_,λk _ p=> ?_⟩;grind [World.putObj_heap_other];simp_all[UH]
def zy(ws:List Int)(g o cap:Nat)(gv:Value)(shs:List<|Int×Int)(old:Bool)(bt:Option Nat)(K:Nat->World->Prop):Prop:=
 ∀(W:World) (a t:Nat) (x:Int),Words W ws g o cap->g<xz (xj W)->K t W->ws[a]?=J x->
  Calls xP 102 #[.slice (J ⟨g,o,U⟩) (I ws) cap,.int .i64 a,gv] W λe W'=>W.grownBy W' bt/\match Wl shs old a t x with
   |some (d,f)=>e=.returned (WL d)/\K f W'
   |none=>e=.panicked (Vn 3)
def endS(ws:List Int)(shs:List<|Int×Int)(old:Bool)(K:Nat->World->Prop)(xs:List Ob)(W:World):Prop:=
 ∃t,K t W/\ZQ ws shs old=(if t<(I shs) then([],3)else(xs,0))
def Z3x(ws:List Int)(shs:List<|Int×Int)(old:Bool)(chain:List PanicEntry)(pre:List Ob)(W:World):Prop:=
 ∃e,(e=2\/e=3)/\chain=Vn e/\ZQ ws shs old=([],e)
structure Stat6 (ws:List Int) (g o cap:Nat) (sv:Value) (bw bg base bl:Nat) (bt:Option Nat) (gv:Value) (W:World):Prop where
 words:Words W ws g o cap
 wv:sv=.slice (J ⟨g,o,U⟩) (I ws) cap\/(ws=[]/\∃a c,sv=.slice a 0 c)
 ub:W.heap[bw]?=J (.cells #[sv] 28 (0,0))
 vw:W.heap[bg]?=J (.cells #[gv] 175 (0,0))
 gb:ws≠[]->∃ob,W.heap[g]?=J ob/\ob.isCells=xk
 lt:g<base/\bw<base/\bg<base/\base<=xz (xj W)
 ne:g≠bl/\bw≠bl/\bg≠bl
 nt:J g≠bt/\J bw≠bt/\J bg≠bt
section
variable {ws:List Int}{g o cap bw bg base bl:Nat}{bt:Option Nat}{sv gv:Value}{W W':World}
theorem Stat6.of(h:Stat6 ws g o cap sv bw bg base bl bt gv W)(n:xz (xj W)<=xz (xj W'))(d:∀k a,W.heap[k]?=J a->a.isCells=xk->k<base->k≠bl->J k≠bt->W'.heap[k]?=J a):Stat6 ws g o cap sv bw bg base bl bt gv W':=by
 refine⟨⟨λi x p=> ?_,h.words.le,h.words.cap,h.words.len,h.words.u64⟩,h.wv,d _ _ h.ub rfl h.lt.2.1 h.ne.2.1 h.nt.2.1,d _ _ h.vw rfl h.lt.2.2.1 h.ne.2.2 h.nt.2.2,λj=> ?_,⟨h.lt.1,h.lt.2.1,h.lt.2.2.1,ZhD h.lt.2.2.2 n⟩,h.ne,h.nt⟩;have j:ws≠[]:=Zgc;let⟨a,l,f⟩:=h.gb j;have q:=d _ _ l f h.lt.1 h.ne.1 h.nt.1;rw[<-h.words.Y i x p];grind [World.cell?_of_block];let⟨a,l,f⟩:=h.gb j;exact⟨a,d _ _ l f h.lt.1 h.ne.1 h.nt.1,f⟩
def Stat6.grown(h:Stat6 ws g o cap sv bw bg base bl bt gv W)(a:W.grownBy W' bt):=
 h.of a.size λk j d _ _ _ f=>(a.block k Zgc f).trans d
def Stat6.kp(h:Stat6 ws g o cap sv bw bg base bl bt gv W)(f:KpW bl base W W'):=
 h.of f.size λk n a j l d _=>f.same k n a j d Z0
end
def V3{W W'}(a:Below (xz<|xj W) W W')r:W.grownBy W' r:=⟨a.os,a.tape,a.output,a.size,λk d _=>a.block k d⟩
def Z2J{ws g o cap}:zy ws g o cap .nilFunc [] xw U (λt _=>t=0):=by
 intro W a t x h f k j;refine(Z2M W ws g o cap h f a x j).mono ?_;rintro e W' ⟨rfl,d⟩;refine⟨V3 d U,?_⟩;unfold Wl SI;grind
def Shps.grown{W W' shs d v r}(h:Shps W shs d v)(j:W.grownBy W' r)(f:J d≠r)(p:shs≠[]->∀g o cap,v=.slice (J ⟨g,o,U⟩) (I shs) cap->J g≠r):Shps W' shs d v:=by
 refine⟨(j.block _ (Y2 h.box) f).trans h.box,?_⟩;obtain⟨g,o,cap,rfl,l,n,k,q⟩|⟨a,cap,rfl,rfl⟩:=h.val;refine .inl ⟨g,o,cap,rfl,l,n,Zhj k j.size,λi x u=> ?_⟩;have t:=j.block g k Zgc;grind [World.cell?_of_block];simp
def KOld(shs:List<|Int×Int)(bt a:Nat)(v:Value)(t:Nat)(W:World):Prop:=W.heap[bt]?=J (.cells #[.int .i64 t] 3 (0,0))/\Shps W shs a v/\t<=I shs
def Z2K{ws:List Int}{g o cap:Nat}{shs:List (Int×Int)}{bt k:Nat}{v:Value}(B:I shs<=1000000)(n:k≠bt)(q:shs≠[]->∀g o cap,v=.slice (J ⟨g,o,U⟩) (I shs) cap->g≠bt):
  zy ws g o cap (.func (.func 98) #[] #[.pointer<|J ⟨bt,0,U⟩,.pointer<|J ⟨k,0,U⟩]) shs xk (J bt) (KOld shs bt k v):=by
 intro W a t x y w F z;obtain⟨A,D,M⟩:=F;have p:J k≠J bt:=λe=>n Zgc;have r:shs≠[]->∀g o cap,v=.slice (J ⟨g,o,U⟩) (I shs) cap->J g≠J bt:=λL g o cap e O=>q L g o cap e Zgc;have h:∀W',Below (xz<|xj W) W W'->Shps W' shs k v:=λW' d=>D.grown (V3 d U) Z1 (λ_ _ _ _ _=>Z1);have f:∀W',Below (xz<|xj W) W W'->W'.heap[bt]?=J (.cells #[.int .i64 t] 3 (0,0)):=λW' d=>(d.block _<|Y2 A).trans A;by_cases l:(adr x).2=0;unfold Wl;rw[Zhi ⟨rfl,l⟩];cases j:shs[t]? with
 |none=>
  have:t=I shs:=by have:=ZiY.1 j;omega
  subst this;refine(FS W _ ws g o cap y w a x z l λW' d=>Z49 W' shs bt k v B (h W' d)<|f W' d).mono ?_;rintro e W' ⟨rfl,d⟩;exact⟨V3 d _,rfl⟩
 |some s=>
  simp only;cases u:YE s.1 s.2;refine(FS W _ ws g o cap y w a x z l λW' d=>Z48 W' shs bt k t v s B (h W' d) (f W' d) j u).mono ?_;rintro e W' ⟨rfl,d⟩;exact⟨V3 d _,Z1⟩;refine(Z2L W _ ws g o cap y w a x z l bt _ s.1 s.2 (Y2 A) λW' d=>Z4a W' shs bt k t v s B (h W' d) (f W' d) j u n<|q (λe=>Zgd)).mono ?_;rintro e W' ⟨rfl,C,G⟩;have K:=(Zh9.1 j).1;refine⟨C,?_⟩;simp only[Zi9];exact⟨trivial,G,D.grown C p r,Z0⟩
 refine(Z2N W _ _ ws g o cap y w a x z l).mono ?_;rintro e W' ⟨rfl,d⟩;refine⟨V3 d _,?_⟩;unfold Wl SI;rw[Zhg (λH=>l H.2)];by_cases N:(ZS x).2.2=0;simp only[N,Zi9];exact⟨trivial,f W' d,h W' d,M⟩;simp_all
end Vm
end
section
namespace Vm
open Go Go.Proofs Go.RowKit Go.Shelf
def EO(a:Nat)(W:World):Prop:=∀k,UH W a=J k->k<xz (xj W)
def Ve{A B C:World}{r}(h:A.grownBy B r)(k:B.grownBy C r):A.grownBy C r:=
 ⟨k.os.trans h.os,k.tape.trans h.tape,k.output.trans h.output,ZhD h.size k.size,λi a d=>(k.block i (Zhj a h.size) d).trans<|h.block i a d⟩
def Zbl ws shs old{a t g x d}(hx:ws[a]?=J x)(h:Wl shs old a t x=J (d,g)){f pre}:
  Xu ws shs old (f+1) a t pre=if(I ws:Int)<a+1+d.size then([],2)else if XP ((ws.drop<|a+1).take d.size.toNat) d.gone d.M 0=xw then([],3)else Xu ws shs old f (a+1+d.size.toNat) g (pre++[d]):=by
 simp_all[Xu]
def Z3u(n:Nat){w:World}{ws:List Int}{g o cap bw bg base z:Nat}{bt:Option Nat}{sv gv:Value}{shs:List (Int×Int)}{old:Bool}{K:Nat->World->Prop}(d9:Stat6 ws g o cap sv bw bg base z bt gv w)
  (f0:z<base) (b2:J z≠bt) (a9:zy ws g o cap gv shs old bt K) (d6:K 0 w) (a6:∀t W W',K t W->Below (xz<|xj W) W W'->K t W') (d7:∀t W W',K t W->KpW z base W W'->K t W'):
  EQ Fence.wide n xP 101 #[.pointer<|J ⟨bw,0,U⟩,.pointer<|J ⟨bg,0,U⟩] (λd:Ob=> #[WL d]) (KpW z base) (endS ws shs old K) (Z3x ws shs old) (I ws) bt (EO z) w:=by
 intro l h W hW d5 hJ hY h0;refine callsIn_of_wp ET rfl trivial ?_ rfl;simp only[Tryz.ntmps101,ZiF,Zip,ZiI,Nat.reduceAdd,Nat.reduceSub,Zj1,Zj2,Zju,Zj9,Zi8,Zix];have c7:=Zhf<|d9.grown<|V3 hW bt;have b9:=Zhf<|a6 0 w W d6 hW;have b7:=Zhf h0;clear h0;gi_wp2
 gi_loopw [4] (λp wr=>∃(a t f:Nat) (pre:List Ob),p=.int .i64 a/\Hid (h pre wr/\K t wr/\Stat6 ws g o cap sv bw bg base z bt gv wr/\I ws<f+a/\0<f/\a<=I ws/\I pre<=a/\ZQ ws shs old=Xu ws shs old f a t pre))
  (λp _=>I ws- (intOf p).toNat)
 case atStart=>exact⟨0,0,I ws+1,[],rfl,Zhf ⟨b7.out,b9.out,c7.out,Z0,Z0,Z0,Z1,rfl⟩⟩
 case round=>
  obtain⟨a,t,f,pre,rfl,j⟩:=hrel;have k:=j.out.2.2.1;have a1:=k.wv;have c1:wr.cell? ⟨bw,0,U⟩=J sv:=by rw[Zhl _ _ _ _ _ _ k.ub];rfl
  have c2:wr.cell? ⟨bg,0,U⟩=J gv:=by rw[Zhl _ _ _ _ _ _ k.vw];rfl
  have e2:=k.words.len;clear k;by_cases b1:a<I ws
  .obtain⟨x,hx⟩:∃x,ws[a]?=J x:=⟨_,Zh8 b1⟩;obtain rfl:sv=.slice (J ⟨g,o,U⟩) (I ws) cap:=a1.resolve_right (λh=>Zgd);clear a1;have e3:((a:Int)<I ws)=True:=Zje Z0;have hb:=a9 wr a t x j.out.2.2.1.words (by have:=j.out.2.2.1.lt;omega) j.out.2.1 hx;cases ho:Wl shs old a t x with
   |none=>
    rw[ho]at hb;have HX:=Zhf hb;clear hb;gi_wp2
    refine⟨trivial,λh=>Zgt,(Zjj.2 HX.out).mono ?_⟩;rintro e w1 ⟨y,rfl⟩;have H:=Zhf y;clear y;gi_wp2
    refine⟨rfl,.inr ⟨_,pre,rfl,⟨3,.inr rfl,rfl,?_⟩,hJ _ _ _ _ j.out.1 H.out<|λr e=>e.symm⟩⟩;obtain⟨_,_,_,hf,N,_,_,L⟩:=j.out;cases f with
    |zero=>omega
    |succ f=>
     simp_all[Xu]
   |some q=>
    obtain⟨d,t'⟩:=q;rw[ho]at hb;have HX:=Zhf hb;clear hb;obtain⟨a0,B⟩:=qu ho;gi_wp2
    refine⟨trivial,λh=>Zgt,(Zjj.2 HX.out).mono ?_⟩;rintro e w1 ⟨y,rfl,b0⟩;have H:=Zhf y;have c0:=Zhf b0;have M:=j.out.2.2.1.grown y;have e8:=Zhf M;have e1:∀O,(w1.alloc O).cell? ⟨bw,0,U⟩=J (.slice (J ⟨g,o,U⟩) (I ws) cap):=λO=>by
     rw[ZiC _ _ _<|Y2 M.ub,Zhl _ _ _ _ _ _ M.ub];rfl
    have Z:wr.grownBy (w1.alloc<|.cells #[.int .i64 a,.int .i64 d.size,.int .i64 d.M,.bool d.gone,.int .u64 d.target] 71) bt:=Ve y<|Ziu _ _ _;have a8:=Zhf<|j.out.2.2.1.grown Z;have hh:=Z4n (w1.alloc<|.cells #[.int .i64 a,.int .i64 d.size,.int .i64 d.M,.bool d.gone,.int .u64 d.target] 71) ws g o cap a8.out.words (by have:=a8.out.lt;omega) d a B b1 a0;unfold WL at hh;rw[B]at hh;have b5:=Zhf Z;have R:=Zhf hh;have G:∀f pre,Xu ws shs old (f+1) a t pre=_:=λf pre=>Zbl ws shs old hx ho (f:=f) (pre:=pre);have S:=Zhf G;clear y b0 M Z hh G hx;unfold WL;gi_wp2
    refine⟨trivial,λh=>Zgt,(Zjj.2 R.out).mono ?_⟩;rintro e w2 ⟨rfl,C⟩;have A:wr.grownBy w2 bt:=Ve b5.out<|V3 C bt;have Q:=Zhf A;have b3:=Zhf C;unfold yC;by_cases T:(I ws:Int)<d.Y+1+d.size
    .rw[Zhi T];rw[B]at T;clear C A;gi_wp2
     refine⟨rfl,.inr ⟨_,pre,rfl,⟨2,.inl rfl,rfl,?_⟩,hJ _ _ _ _ j.out.1 Q.out<|λr e=>e.symm⟩⟩;obtain⟨_,_,_,hf,N,_,_,L⟩:=j.out;obtain⟨f,rfl⟩:∃f',f=f'+1:=⟨f-1,Z0⟩;rw[L,S.out,Zhi T]
    .rw[Zhg T];by_cases X:XP ((ws.drop<|d.Y.toNat+1).take d.size.toNat) d.gone d.M 0=xw
     .rw[Zhi X];rw[B]at T X;clear C A;gi_wp2
      refine⟨rfl,.inr ⟨_,pre,rfl,⟨3,.inr rfl,rfl,?_⟩,hJ _ _ _ _ j.out.1 Q.out<|λr e=>e.symm⟩⟩;obtain⟨_,_,_,hf,N,_,_,L⟩:=j.out;obtain⟨f,rfl⟩:∃f',f=f'+1:=⟨f-1,Z0⟩;rw[L,S.out,Zhg Z0];simp_all
     .rw[Zhg X];rw[B]at T X;simp only[Zhm]at X;have b6:=Zhf<|And.intro T X;have Y:=hJ _ _ _ _ j.out.1 A (λr e=>e.symm);have e6:=Zhf Y;have c8:=Zhf<|j.out.2.2.1.grown A;have u:w2.heap[xz<|xj w1]?=J (.cells #[.int .i64 a,.int .i64 d.size,.int .i64 d.M,.bool d.gone,.int .u64 d.target] 71 (0,0)):=(C.block _ Z1).trans<|ZhB w1 _;have b4:=Zhf u;obtain⟨fn,e5,assign,e0,hy,L⟩:=hY pre d w2 Y (by have:=j.out.2.2.2.2.2.2.1;omega);unfold WL at hy;rw[B]at hy;have d0:w2.cell? ⟨xz<|xj w1,0,U⟩=J (.int .i64 a):=ZgD;have d1:w2.cell? ⟨xz<|xj w1,1,U⟩=J (.int .i64 d.size):=ZgD;have d2:w2.cell? ⟨xz<|xj w1,2,U⟩=J (.int .i64 d.M):=ZgD;have d3:w2.cell? ⟨xz<|xj w1,3,U⟩=J (.bool d.gone):=ZgD;have d4:w2.cell? ⟨xz<|xj w1,4,U⟩=J (.int .u64 d.target):=ZgD;clear C A Y u;gi_wp2
      refine⟨λh=>Zgt,L.mono ?_⟩;rintro e W3 ⟨rfl,a3,D⟩;have b8:=Zhf a3;have e7:=Zhf D;have F:UH w2 z≠J (xz<|xj w1):=by
       intro e;have d8:z<xz (xj wr):=by have:=j.out.2.2.1.lt.2.2.2;omega
       have:UH w2 z=UH wr z:=by
        unfold UH;rw[ZhX (a:=⟨z,0,U⟩)<|Q.out.block z d8 b2]
       rw[this]at e;have:=d5 _ _ j.out.1 _ e;have:=H.out.size;omega
      have P:=D.same _ _ b4.out rfl (by have:=j.out.2.2.1.lt.2.2.2;have:=H.out.size;omega)<|.inr F;have f1:W3.cell? ⟨xz<|xj w1,1,U⟩=J (.int .i64 d.size):=by rw[Zhl _ _ _ _ _ _ P];rfl
      have a7:=c8.out.kp D;have a4:K t' w2:=a6 _ _ _ c0.out<|((Zhw _ _).alloc (Zhc _) _).trans<|b3.out.mono Z1;have a5:=d7 _ _ _ a4 D;have a2:=Zhf<|And.intro a7 a5;obtain⟨m,hm⟩:∃m:Nat,d.size=m:=⟨d.size.toNat,by have:=(YN.1 a0).1;omega⟩;rw[hm]at f1;have f3:(m:Int)<=255:=by have:=(YN.1 a0);omega
      have q1:IntKind.i64.wrap (1+(m:Int))=((1+m:Nat):Int):=Zgq;have q2:IntKind.i64.wrap ((a:Int)+((1+m:Nat):Int))=((a+(1+m):Nat):Int):=Zgq;clear a3 D P a7 a4 a5 F;clear X;gi_wp2
      obtain⟨_,_,_,hf,N,e9,f4,L⟩:=j.out;obtain⟨f,rfl⟩:∃f',f=f'+1:=⟨f-1,Z0⟩;rw[S.out,Zhg Z0,Zhg b6.out.2]at L;have f2:a+1+m<=I ws:=Z0;refine⟨⟨a+(1+m),t',f,pre++[d],Z1,Zhf ⟨b8.out,a2.out.2,a2.out.1,Z0,Z0,Z0,Zge,?_⟩⟩,by grind [intOf]⟩;grind
  .have e4:((a:Int)<I ws)=False:=ZiM Z0
   have HE:Hid<|endS ws shs old K pre wr:=Zhf (by
    obtain⟨_,hK,_,hf,N,_,_,L⟩:=j.out;refine⟨t,hK,?_⟩;cases f with
    |zero=>omega
    |succ f=>
     simp_all[Xu,ZhP])
   obtain⟨sa,sc,rfl⟩:∃sa sc,sv=.slice sa (I ws) sc:=by
    grind
   clear a1;gi_wp2
   go_end0
   exact .inl ⟨_,pre,rfl,HE.out,j.out.1⟩
end Vm
namespace Vm
open Go Go.Proofs Go.RowKit Go.Shelf
def Z3v(w:World)(g d:Value)(k:∃a n c,g=.slice a n c)(h:d=.nilFunc\/∃f vs,d=.func (.func f) #[] vs):
  Calls xP 100 #[g,d] w λe l=>e=.returned (.func (.func 101) #[] #[.pointer<|J ⟨xz<|xj w,0,U⟩,.pointer<|J ⟨xz (xj w)+1,0,U⟩])/\
   l=(w.alloc<|.cells #[g] 28).alloc (.cells #[d] 175):=by
 have j:∀(fn:Go.Fn) (first cap:Array Value) (w:World),(Instr.makeFunc fn first cap).run xP w=.ok (.func fn first cap) w:=λ_ _ _ _=>rfl;obtain⟨a,n,c,rfl⟩:=k;obtain rfl|⟨f,vs,rfl⟩:=h
 .go_enter A1,Tryz.ntmps100;go_wp2;exact Zi0 (results_tmp rfl _ _ _) rfl ⟨rfl,rfl⟩
 .go_enter A1,Tryz.ntmps100;go_wp2;exact Zi0 (results_tmp rfl _ _ _) rfl ⟨rfl,rfl⟩
def Z6M w:Sem.run xP (binOp .neq 20 .nilIface .nilIface) w=.ok (.bool xw) w:=Zh2
def Z6N w T v:Sem.run xP (binOp .neq 20 (.iface T v) .nilIface) w=.ok (.bool xk) w:=Zh2
def ZaW(w:World)(x:Int):Sem.run xP (Instr.typeAssert (.iface 174<|.agg #[.int .i64 x]) 20 174 xk) w=.ok (.tuple #[.agg #[.int .i64 x],.bool xk]) w:=Zh2
def Z3b(n:Nat)(p q:Addr)(w:World):
  CallsDIn Fence.wide n xP 99 #[.pointer<|J p,.pointer<|J q] .returning w λe f g=>e=.returned (.tuple #[])/\f=.returning/\g=w:=by
 have j:=Z6M;refine callsDIn_of_wpSIn A6 rfl trivial λa h d=> ?_;simp only[Tryz.ntmps99,ZiF,Zip,ZiI,Nat.reduceAdd,Nat.reduceSub,Zj1,Zj2,Zju,Zj9,Zi8,Zix];apply wpSIn_seq;apply wpSIn_region;simp[wpOpsSIn,go_sem,recoverD,d,Exit.thenS];refine wpSIn_of_wpIn rfl ?_;gi_wp2
 cases a;simp_all [bodyPostS,results,Tryz.results99]
def Z3c(n:Nat)(a d:Nat)(x:Int)(w:World)(z l:Value)(f:Boxed w a 65 z)(g:Boxed w d 34 l)(h:a≠d):
  CallsDIn Fence.wide n xP 99 #[.pointer<|J ⟨a,0,U⟩,.pointer<|J ⟨d,0,U⟩] (.panicking<|Vn x) w λe y j=>
   e=.returned (.tuple #[])/\y=.panicking [{v:=.iface 174<|.agg #[.int .i64 x],recovered:=xk}]/\
   Boxed j a 65 (.slice U 0 0)/\Boxed j d 34 (.int .i64 x)/\(xz (xj w)<=xz (xj j)/\∀k,k<xz (xj w)->k≠a->k≠d->j.heap[k]?=w.heap[k]?)/\j.os=w.os/\j.tape=w.tape/\j.output=w.output:=by
 have C:=Z6N;have D:=ZaW;have P:=(f.alloc<|.cells #[.int .i64 x] 174).cell;have p2:=(f.alloc<|.cells #[.int .i64 x] 174).frozen;have Q:=(g.alloc<|.cells #[.int .i64 x] 174).cell;have R:=(g.alloc<|.cells #[.int .i64 x] 174).frozen;have p3:=f.cell;have p4:=f.frozen;have S:=g.cell;have T:=g.frozen;have H:=f.lt;have K:=g.lt;have t:¬a=d:=h;have u:¬d=a:=λe=>h e.symm;have L:¬a=xz (xj w):=Z0;have M:¬xz (xj w)=a:=Z0;have N:¬d=xz (xj w):=Z0;have O:¬xz (xj w)=d:=Z0;have o:=Zhf<|And.intro f g;clear f g h;refine callsDIn_of_wpSIn A6 rfl trivial λB A r=> ?_;simp only[Tryz.ntmps99,ZiF,Zip,ZiI,Nat.reduceAdd,Nat.reduceSub,Zj1,Zj2,Zju,Zj9,Zi8,Zix];apply wpSIn_seq;apply wpSIn_region;simp[wpOpsSIn,go_sem,recoverD,r,Vn,Exit.thenS];refine wpSIn_of_wpIn rfl ?_;gi_wp2
 gi_region
 all_goals gi_wp2
 obtain⟨f,g⟩:=o.out;have p:Boxed ((w.setCell ⟨a,0,U⟩<|.slice U 0 0).setCell ⟨d,0,U⟩<|.int .i64 x) a 65<|.slice U 0 0:=(Zhv _ ⟨d,0,U⟩ _ a t).trans<|f.set _;have q:Boxed ((w.setCell ⟨a,0,U⟩<|.slice U 0 0).setCell ⟨d,0,U⟩<|.int .i64 x) d 34<|.int .i64 x:=Boxed.set _ (show Boxed (w.setCell ⟨a,0,U⟩<|.slice U 0 0) d 34 l from(Zhv _ ⟨a,0,U⟩ _ d u).trans g);refine⟨rfl,_,rfl,_,by simp[results,Tryz.results99],rfl,rfl,p.alloc _,q.alloc _,⟨?_,λk F k1 G=> ?_⟩,rfl,rfl,rfl⟩;simp;show(World.alloc _ _).heap[k]?=_;grind [Below.heap_alloc,World.setCell,Below.heap_setCell]
end Vm
namespace Vm
open Go Go.Proofs Go.RowKit Go.Shelf
def TE(a:Ob):List Value:=[.int .i64 a.Y,.int .i64 a.size,.int .i64 a.M,.bool a.gone,.int .u64 a.target]
def WS(l:List Ob):List Value:=l.flatMap TE
def Z78 l x:WS (l++[x])=WS l++TE x:=by simp[WS]
structure WIv (w:World) (bt:Option Nat) (pre:List Ob) (W:World):Prop where
 row:∃v,Boxed W (xz<|xj w) 65 v/\W.ownsRow (xz (xj w)+4) 71 5 v (I pre) (WS pre)
 e:Boxed W (xz (xj w)+1) 34<|.int .i64 0
 gr:w.grownBy W bt
 size:xz (xj w)+4<=xz (xj W)
def UZ{w X Y:World}{bt row}(h:w.grownBy X bt)(k:X.grownBy Y row)(f:∀r,row=J r->J r=bt\/xz (xj w)<=r):w.grownBy Y bt:=
 ⟨k.os.trans h.os,k.tape.trans h.tape,k.output.trans h.output,ZhD h.size k.size,λi a d=>
  (k.block i (Zhj a h.size) Zgc).trans (h.block i a d)⟩
theorem jm{W b t v}(h:Boxed W b t v):UH W b=v.ownBlock:=by
 unfold UH;rw[h.cell];rfl
def WIv.uo{w bt pre W}(h:WIv w bt pre W):EO (xz<|xj w) W:=by
 let⟨v,f,d⟩:=h.row;intro k a;rw[jm f]at a;exact(d.lt k a).2
def WIv.own{w bt}(u:∀r,bt=J r->r<xz (xj w)):OwnP bt (xz (xj w)+4)<|WIv w bt:=by
 intro s X Y row h d p;have y:∀k,xz (xj w)<=k->k<xz (xj w)+4->J k≠row:=by
  intro k t A e;obtain j|⟨j,_⟩:=p k e.symm;grind;omega
 let⟨v,z,a⟩:=h.row;refine⟨⟨v,z.kept d Zgd,a.kept d ?_⟩,h.e.kept d Zgd,UZ h.gr d λr e=>Zgc,ZhD h.size d.size⟩;cases l:v.ownBlock with
 |none=>simp
 |some b=>
  refine .inr λe=> ?_;have t:=a.lt b l;obtain j|⟨_,o,n,x⟩:=p b e.symm;grind;obtain⟨rfl,_⟩|⟨g,cap,q,rfl,_,f,_⟩:=a.2;simp[Value.ownBlock]at l;obtain rfl:g=b:=by grind [Value.ownBlock]
  rw[f]at n;cases n;cases x
def WIv.appended{w W w1:World}{bt:Option Nat}{pre:List Ob}{x:Ob}{v v':Value}{tmp:Obj}(C:∀r,bt=J r->r<xz (xj w))(h:WIv w bt pre W)(A:Boxed W (xz<|xj w) 65 v)
  (g:W.ownsRow (xz (xj w)+4) 71 5 v (I pre)<|WS pre) (d:w1.ownsRow (xz (xj w)+4) 71 5 v' (I pre+1)<|WS pre++TE x)
  (a:(W.alloc tmp).grownBy w1 v.ownBlock) (f:v'.ownBlock=v.ownBlock\/v'.ownBlock=J (xz<|xj<|W.alloc tmp)):
  Boxed w1 (xz<|xj w) 65 v/\KeepsFrom (xz (xj w)+4) W (w1.setCell ⟨xz<|xj w,0,U⟩ v')/\KpW (xz<|xj w) (xz (xj w)+4) W (w1.setCell ⟨xz<|xj w,0,U⟩ v')/\WIv w bt (pre++[x]) (w1.setCell ⟨xz<|xj w,0,U⟩ v'):=by
 have u:=h.size;obtain⟨y,l,F,j,B⟩:=A.appended Zgm (Lt g (B':=xz<|xj w) Z0) Z0 (Zhc _) (Lt d (B':=xz<|xj w) Z0) a;have z:∀b,v.ownBlock=J b->xz (xj w)+4<=b:=λb p=>(g.lt b p).1
 have t:(w1.setCell ⟨xz<|xj w,0,U⟩ v').ownsRow (xz (xj w)+4) 71 5 v' (I pre+1)<|WS pre++TE x:=d.kept (ZjB w1 (xz<|xj w) v') (by
  cases p:v'.ownBlock with
  |none=>simp
  |some b=>exact .inr λe=>by have G:=(d.lt b p).1;grind)
 refine⟨y,j.from _,⟨j.size,λk o n H D K=> ?_,λk n e=> ?_⟩,⟨v',l,?_⟩,?_,?_,ZhD u j.size⟩;rw[Zhv _ _ _ _ D,a.block k (by have:=Y2 n;simp;omega) (λe=> ?_),Zht _ _ _<|Y2 n,n];grind [jm,trans];rw[jm l]at e;rw[jm A];obtain f|f:=f;simp_all;rw[f]at e;simp at e;omega;simp_all[ZhY,Z78];have q:Boxed w1 (xz (xj w)+1) 34<|.int .i64 0:=(h.e.alloc tmp).kept a (λe=>Zgc);exact(Zhv _ _ _ _ Z1).trans q;refine UZ (UZ (UZ h.gr (Ziu W tmp U) Z1) a λr e=>.inr ?_) (ZjB w1 (xz<|xj w) v') λr e=>.inr ?_;grind;simp_all
def KpW.alloc{a base W}o(d:a<xz (xj W)):KpW a base W<|W.alloc o:=by
 refine⟨Z1,λk h f _ _ _=>(Zht _ _ _ Zgc).trans f,λk _ g=> ?_⟩;simp_all[UH,ZiC]
end Vm
namespace Vm
open Go Go.Proofs Go.RowKit Go.Shelf
attribute [local go_sem] Oper.semAt_some
def Z5z:(xP.info? 71).map (λi=>(i.zero,i.size,i.bytes))=J (J<|.agg #[.int .i64 0,.int .i64 0,.int .i64 0,.bool xw,.int .u64 0],5,40):=Z2
def unO:xP.underlying 65=J (.slice 71):=Z2
def Z3g(w:World)a b c d e t:∀j u,[a,b,c,d,e][j]?=J u->(w.alloc<|.cells #[a,b,c,d,e] t).cell? ((⟨xz<|xj w,0,U⟩:Addr).add j)=J u:=by
 intro j u h;have:=Zhl _ _ j _ _ _<|ZhB w<|.cells #[a,b,c,d,e] t;grind [Addr.add]
def Fi(w:World)(ws:List Int)(shs:List<|Int×Int)(old:Bool)(bt:Option Nat)(K:Nat->World->Prop)(e:Ending)(W:World):Prop:=
 ∃v n a,e=.returned (.tuple #[v,.int .i64 n])/\w.grownBy W bt/\W.ownsRow (xz (xj w)+4) 71 5 v (I a) (WS a)/\((n=0/\endS ws shs old K a W)\/((n=2\/n=3)/\a=[]/\ZQ ws shs old=([],n)))
def Z0d{w:World}{ws:List Int}{g o cap:Nat}{bt:Option Nat}{p j:Value}{shs:List (Int×Int)}{old:Bool}{K:Nat->World->Prop}(hw:Words w ws g o cap)
  (b5:p=.slice (J ⟨g,o,U⟩) (I ws) cap\/(ws=[]/\∃a c,p=.slice a 0 c)) (hg:(ws≠[]->g<xz (xj w))/\g<xz (xj w)+4/\g≠xz (xj w)) (d5:j=.nilFunc\/∃f vs,j=.func (.func f) #[] vs)
  (a0:∀r,bt=J r->r<xz (xj w)) (c8:J g≠bt) (a6:zy ws g o cap j shs old bt K) (b6:K 0 w)
  (z:∀t A B row,K t A->A.grownBy B row->(∀r,row=J r->xz (xj w)<=r)->K t B)
  (b8:∀bl base t A B,xz (xj w)<=bl->xz (xj w)<=base->K t A->KpW bl base A B->K t B):
  Calls xP 97 #[p,j] w (Fi w ws shs old bt K):=by
 refine(Zjj (n:=5)).1 ?_;have f8:∀(fn:Go.Fn) (first cap:Array Value) (w:World),(Instr.makeFunc fn first cap).run xP w=.ok (.func fn first cap) w:=λ_ _ _ _=>rfl;have d9:∃a n c,p=.slice a n c:=by
  obtain rfl|⟨_,a,c,rfl⟩:=b5;simp;simp
 refine callsIn_of_wp_marks Fe rfl trivial ?_ rfl;simp only[Tryz.ntmps97,ZiF,Zip,ZiI,Nat.reduceAdd,Nat.reduceSub,Zj1,Zj2,Zju,Zj9,Zi8,Zix];have he:=λW=>Z3v W p j d9 d5;gi_wp2
 refine⟨trivial,(Zjj.2<|he _).mono ?_⟩;rintro e w1 ⟨rfl,rfl⟩;gi_wp2
 have a2:∀b:Nat,b<xz (xj w)->((((w.alloc<|Obj.cells #[.slice U 0 0] 65).alloc<|.cells #[.int .i64 0] 34).alloc<|.cells #[p] 28).alloc<|.cells #[j] 175).heap[b]?=w.heap[b]? :=λb hb=>by
  grind [Below.heap_alloc]
 have b0:Boxed ((((w.alloc<|Obj.cells #[.slice U 0 0] 65).alloc<|.cells #[.int .i64 0] 34).alloc<|.cells #[p] 28).alloc<|.cells #[j] 175) (xz<|xj w) 65<|.slice U 0 0:=(((Boxed.new w _ _).alloc _).alloc _).alloc _;have b1:Boxed ((((w.alloc<|Obj.cells #[.slice U 0 0] 65).alloc<|.cells #[.int .i64 0] 34).alloc<|.cells #[p] 28).alloc<|.cells #[j] 175) (xz (xj w)+1) 34<|.int .i64 0:=by
  have:=((Boxed.new (w.alloc<|Obj.cells #[.slice U 0 0] 65) 34<|.int .i64 0).alloc<|.cells #[p] 28).alloc<|.cells #[j] 175;rwa[ZjA]at this
 have b2:Boxed ((((w.alloc<|Obj.cells #[.slice U 0 0] 65).alloc<|.cells #[.int .i64 0] 34).alloc<|.cells #[p] 28).alloc<|.cells #[j] 175) (xz (xj w)+2) 28 p:=by
  have:=(Boxed.new ((w.alloc<|Obj.cells #[.slice U 0 0] 65).alloc<|.cells #[.int .i64 0] 34) 28 p).alloc<|.cells #[j] 175;simp_all
 have b3:Boxed ((((w.alloc<|Obj.cells #[.slice U 0 0] 65).alloc<|.cells #[.int .i64 0] 34).alloc<|.cells #[p] 28).alloc<|.cells #[j] 175) (xz (xj w)+3) 175 j:=by
  have:=Boxed.new (((w.alloc<|Obj.cells #[.slice U 0 0] 65).alloc<|.cells #[.int .i64 0] 34).alloc<|.cells #[p] 28) 175 j;simp_all
 have L:w.grownBy ((((w.alloc<|Obj.cells #[.slice U 0 0] 65).alloc<|.cells #[.int .i64 0] 34).alloc<|.cells #[p] 28).alloc<|.cells #[j] 175) bt:=⟨rfl,rfl,rfl,Zge,λk hk _=>a2 k hk⟩;have P:xz (xj<|(((w.alloc<|Obj.cells #[.slice U 0 0] 65).alloc<|.cells #[.int .i64 0] 34).alloc<|.cells #[p] 28).alloc<|.cells #[j] 175)=xz (xj w)+4:=Z1;generalize f6:(((w.alloc<|Obj.cells #[.slice U 0 0] 65).alloc<|.cells #[.int .i64 0] 34).alloc<|.cells #[p] 28).alloc (.cells #[j] 175)=W0 at*;have e0:Stat6 ws g o cap p (xz (xj w)+2) (xz (xj w)+3) (xz (xj w)+4) (xz<|xj w) bt j W0:=by
  refine⟨⟨λi x F=> ?_,hw.le,hw.cap,hw.len,hw.u64⟩,b5,b2,b3,λhn=> ?_,⟨Z0,Z0,Z0,Z0⟩,⟨Z0,Z0,Z0⟩,c8,?_,?_⟩;rw[<-hw.Y i x F];grind [World.cell?_of_block];obtain⟨x,F⟩:∃x,ws[0]?=J x:=by cases ws with|nil=>simp_all|cons x l=>simp
  have:=hw.Y 0 x F;rw[a2 g<|hg.1 hn];unfold World.cell? at this;cases hh:w.heap[g]? with
  |none=>simp_all
  |some ob=>
   refine⟨ob,rfl,?_⟩;grind [Obj.isCells]
  grind;grind
 have a5:K 0 W0:=z 0 w W0 U b6 ⟨L.os,L.tape,L.output,L.size,λk hk _=>a2 k hk⟩ Z1;have b4:=Z3u 4 e0 Z0 (λe=>Zgc) a6 a5 (λt A B hA O=>z t A B U hA ⟨O.os,O.tape,O.output,O.size,λk hk _=>O.block k hk⟩ Z1) (λt A B hA O=>b8 _ _ t A B (Zhc _) Z0 hA O)
 refine Zbw rfl Z0 (gf:=101) (lb:=#[.pointer<|J ⟨xz (xj w)+2,0,U⟩,.pointer<|J ⟨xz (xj w)+3,0,U⟩]) rfl trivial (enters_of ET Z2 rfl)
  b4 (λr e=>Zgc) KpW.trans (λW l o o' h1 h2 h3 _=>KpW.put o' h2 h3 Z0) (Zhw _ _) (λ_=>rfl)
  (WIv w bt) (P▸WIv.own a0) (λpre W h=>h.uo) ⟨⟨_,b0,Ziq _ _ _ _⟩,b1,L,Z0⟩ ?hS
  (λx a' W=>∃y,xz (xj w)+4<=y/\W.heap[y]?=J (.cells #[.int .i64 x.Y,.int .i64 x.size,.int .i64 x.M,.bool x.gone,.int .u64 x.target] 71 (0,0))/\
   a'= {tmps:=#[p,j,xy,xy,.pointer<|J ⟨xz<|xj w,0,U⟩,.pointer<|J ⟨xz (xj w)+1,0,U⟩,.pointer<|J ⟨y,0,U⟩,
    .func (.func 99) #[] #[.pointer<|J ⟨xz<|xj w,0,U⟩,.pointer<|J ⟨xz (xj w)+1,0,U⟩],p,j,.func (.func 101) #[] #[.pointer<|J ⟨xz (xj w)+2,0,U⟩,.pointer<|J ⟨xz (xj w)+3,0,U⟩],WL x,xy,xy,xy,xy,xy],defers:=[]})
  ?hAx ?assign ?body ?done ?panic
 case hS=>
  rintro u X Y row ⟨t,hK,hR⟩ M d;exact⟨t,z t X Y row hK M λr e=>(d r e).elim (λe2=>by cases e2) (λe2=>Z0),hR⟩
 case hAx=>
  rintro x a' s X Y row ⟨y,O,F,ha⟩ M d;refine⟨y,O,(M.block y (Y2 F) λe=> ?_).trans F,ha⟩;obtain e2|⟨_,o2,h2,h3⟩:=d y e.symm;cases e2;rw[F]at h2;cases h2;cases h3
 case assign=>
  rintro l pre x W K2 q b7;simp only[List.zip_cons_cons,Array.zip,WL];gi_wp2
  exact b7 _ _ ((KeepsOthers.alloc W _).from _) (KpW.alloc _ (by have:=q.size;omega)) ((WIv.own a0).alloc _ q) ⟨xz<|xj W,q.size,ZhB W _,rfl⟩
 case body=>
  rintro l pre x a' W q ⟨y,f5,F,rfl⟩ a8;obtain⟨v,Q,d⟩:=q.row;obtain⟨i0,d6,e7,e8,e9⟩:=info_parts Z5z;obtain⟨G,H,rfl⟩:=YW d;have c1:=Q.cell;have c2:=Q.frozen;have d0:W.cell? ⟨y,0,U⟩=J (.int .i64 x.Y):=ZgA;have d1:W.cell? ⟨y,1,U⟩=J (.int .i64 x.size):=ZgA;have d2:W.cell? ⟨y,2,U⟩=J (.int .i64 x.M):=ZgA;have d3:W.cell? ⟨y,3,U⟩=J (.bool x.gone):=ZgA;have d4:W.cell? ⟨y,4,U⟩=J (.int .u64 x.target):=ZgA;have f9:I pre<=1000000:=ZhD (Zlt a8) hw.len;have f4:=q.size;have HA:=λtmp w1 v'=>WIv.appended (W:=W) (w1:=w1) (x:=x) (v':=v') (tmp:=tmp) a0 q Q d;gi_wp2_with (gi_at_builtin;refine wpListIn_append_own_at _ rfl _ _ 65 rfl (xz (xj w)+4) 71 i0 _ 5 40 unO d6 e7 e8 e9 rfl Zgm _ _ _ rfl (d.alloc _) ⟨xz<|xj W,0,U⟩ 1 1 (TE x) rfl rfl (Z3g _ _ _ _ _ _ _) (by simp[TE,Value.oneCell']) (by grind [maxLen]) Z0 Zge ?_;intro v' w1 N a1 _ c0;obtain⟨g',f3,rfl⟩:=ownsRow_succ N;obtain⟨e1,e2,e3,e4⟩:=HA _ _ _ N a1 c0;have e5:=e1.cell;have e6:=e1.frozen)
  rw[P];exact⟨e2,e3,e4⟩
 case done=>
  rintro D u W hD hS q Z;obtain⟨v,Q,d⟩:=q.row;obtain⟨G,H,rfl⟩:=YW d;have c1:=Q.cell;have c2:=Q.frozen;have c3:=q.e.cell;have c4:=q.e.frozen;rw[P]at hD;gi_wp2
  have a4:((W.setCell ⟨xz<|xj w,0,U⟩<|.slice G (I u) H).setCell ⟨xz (xj w)+1,0,U⟩<|.int .i64 0).heap[D]?=J (.deferred<|J []):=by
   rw[Zhv _ _ _ _ Zgc,Zhv _ _ _ _ Zgc];exact Z
  have f0:Boxed ((W.setCell ⟨xz<|xj w,0,U⟩<|.slice G (I u) H).setCell ⟨xz (xj w)+1,0,U⟩<|.int .i64 0) (xz<|xj w) 65<|.slice G (I u) H:=
   (Zhv _ _ _ _ Z1).trans (Q.set _)
  have f1:Boxed ((W.setCell ⟨xz<|xj w,0,U⟩<|.slice G (I u) H).setCell ⟨xz (xj w)+1,0,U⟩<|.int .i64 0) (xz (xj w)+1) 34<|.int .i64 0:=
   Boxed.set _ (show Boxed (W.setCell ⟨xz<|xj w,0,U⟩<|.slice G (I u) H) (xz (xj w)+1) 34 (.int .i64 0)from(Zhv _ _ _ _ Z1).trans q.e)
  have g1:=ZjB W (xz<|xj w)<|.slice G (I u) H;have g2:=ZjB (W.setCell ⟨xz<|xj w,0,U⟩<|.slice G (I u) H) (xz (xj w)+1)<|.int .i64 0;have R:=d.lt
  have r2:=(d.kept g1 (by
   cases hb:(Value.slice G (I u) H).ownBlock with
   |none=>simp
   |some b=>exact .inr λe=>by have:=(R b hb).1;grind)).kept g2 (by
   cases hb:(Value.slice G (I u) H).ownBlock with
   |none=>simp
   |some b=>exact .inr λe=>by have:=(R b hb).1;grind)
  generalize f7:(W.setCell ⟨xz<|xj w,0,U⟩<|.slice G (I u) H).setCell ⟨xz (xj w)+1,0,U⟩ (.int .i64 0)=W2 at*;have g3:=Zk0 W2 D<|.deferred U;have S:Boxed (W2.putObj D<|.deferred U) (xz<|xj w) 65<|.slice G (I u) H:=(ZhR Z0).trans f0;have T:Boxed (W2.putObj D<|.deferred U) (xz (xj w)+1) 34<|.int .i64 0:=(ZhR Z0).trans f1;have k0:=S.cell;have k1:=T.cell;refine⟨Z1,.inl ⟨D,_,rfl,Zkn a4,?_⟩⟩;refine⟨Z1,.inr ⟨λh=>Zgt,.func 99,_,99, #[.pointer<|J ⟨xz<|xj w,0,U⟩,.pointer<|J ⟨xz (xj w)+1,0,U⟩],rfl,Zh2,λ_ _=>trivial,?_⟩⟩;refine(Z3b _ _ _ _).mono ?_;rintro e u' f2 ⟨rfl,rfl,rfl⟩;refine⟨.tuple #[.slice G (I u) H,.int .i64 0],by simp[results,Tryz.results97,go_sem,k0,k1],?_⟩;obtain⟨t,hK,hR⟩:=hS;refine⟨_,0,u,rfl,UZ (UZ (UZ q.gr g1 λr e=>.inr ?_) g2 λr e=>.inr ?_) g3 λr e=>.inr ?_,ownsRow_putObj r2 _ a4 rfl,.inl ⟨rfl,t,z t _ _ _ (z t _ _ _ (z t _ _ _ hK g1 λr e=> ?_) g2 λr e=> ?_) g3 λr e=> ?_,hR⟩⟩;all_goals (grind)
 case panic=>
  rintro D chain pre W hD ⟨e,c7,rfl,b9⟩ q Z;rw[P]at hD;obtain⟨v,Q,d⟩:=q.row;have g3:=Zk0 W D<|.deferred U;have S:Boxed (W.putObj D<|.deferred U) (xz<|xj w) 65 v:=(ZhR Z0).trans Q;have T:Boxed (W.putObj D<|.deferred U) (xz (xj w)+1) 34<|.int .i64 0:=(ZhR Z0).trans q.e;have C:w.grownBy (W.putObj D<|.deferred U) bt:=UZ q.gr g3 λr e=>.inr Zgc;refine⟨Z1,.inl ⟨D,_,rfl,Zkn Z,?_⟩⟩;refine⟨Z1,.inr ⟨λh=>Zgt,.func 99,_,99, #[.pointer<|J ⟨xz<|xj w,0,U⟩,.pointer<|J ⟨xz (xj w)+1,0,U⟩],rfl,Zh2,λ_ _=>trivial,?_⟩⟩;refine(Z3c _ (xz<|xj w) (xz (xj w)+1) e _ _ _ S T Z0).mono ?_;rintro e' u' f2 ⟨rfl,rfl,h0,h1,⟨d8,hk⟩,d7,a3,a9⟩;have k0:=h0.cell;have k1:=h1.cell;refine⟨.tuple #[.slice U 0 0,.int .i64 e],by simp[results,Tryz.results97,go_sem,k0,k1],?_⟩;refine⟨_,e,[],rfl,⟨d7.trans C.os,a3.trans C.tape,a9.trans C.output,ZhD C.size d8,λk a7 hn=> ?_⟩,Ziq _ _ _ _,.inr ⟨c7,rfl,b9⟩⟩;exact(hk k (Zhj a7 C.size) Z0 Z0).trans (C.block k a7 hn)
end Vm
namespace Vm
open Go Go.Proofs Go.RowKit Go.Shelf
theorem Se{w G k n v}(r:Rd w G (.int k n) v):v=.int k n:=by cases r;rfl
theorem OE{w G b v}(r:Rd w G (.bool b) v):v=.bool b:=by cases r;rfl
def Z0j{w G ws v}(r:Rd w G (.sl<|ws.map vu) v)(B:∀b,G b->b<xz (xj w))(u:I ws<=1000000)(y:∀x∈ws,ZB x)q:
  ∃g o cap,Words w ws g o cap/\(v=.slice (J ⟨g,o,U⟩) (I ws) cap\/(ws=[]/\∃a c,v=.slice a 0 c))/\((ws≠[]->g<xz (xj w))/\(g<(xz<|xj w)\/g=q)):=by
 generalize p:ws.map vu=L at r;cases r with
 |nil a cap C=>
  have:ws=[]:=Zgd;subst this;exact⟨q,0,0,⟨Z1,Z1,Zgc,Z1,Z1⟩,Z1,Z1,.inr rfl⟩
 |sl _ b o cap k vs d l A f h n=>
  subst p;simp only[ZhM]at d h⊢;refine⟨b,o,cap,⟨λi x z=> ?_,d,l,u,y⟩,.inl rfl,Zgd,Zgd⟩;have j:(ws.map vu)[i]?=J (vu x):=by rw[Zhz,z];rfl
  have t:k=1:=((f _<|Zhh j).1).symm;subst t;have D:i<I ws:=Zgc;rw[h i Z0];have:=n i (vu x) (by have:=Vt f j 0 Z0;simp_all);rw[Se this]
def Zac{w G shs v}(r:Rd w G (.sl<|shs.map Wb) v)(q:∀b,G b->b<xz (xj w)):
  (∃g o cap,v=.slice (J ⟨g,o,U⟩) (I shs) cap/\I shs<=cap/\cap<=maxLen/\g<xz (xj w)/\∀i x,shs[i]?=J x->w.cell? ⟨g,o+i*2,U⟩=J (.int .i64 x.1)/\w.cell? ⟨g,o+i*2+1,U⟩=J (.int .i64 x.2))\/
  (∃a cap,v=.slice a 0 cap/\shs=[]):=by
 generalize t:shs.map Wb=L at r;cases r with
 |nil a cap A=>
  simp_all
 |sl _ b o cap k vs h l n d p j=>
  subst t;simp only[ZhM]at h p⊢;refine .inl ⟨b,o,cap,rfl,h,l,q b n,λi x u=> ?_⟩;have f:(shs.map Wb)[i]?=J (Wb x):=by rw[Zhz,u];rfl
  have C:k=2:=((d _<|Zhh f).1).symm;have B:i<I shs:=Zgc;have y:=j (i*2) (vi x.1) (by have:=Vt d f 0 Z0;simp_all);have z:=j (i*2+1) (vi x.2) (by have:=Vt d f 1 Z0;simp_all);grind [Se,Nat.add_assoc]
def MA{w G}:∀l i c,(flat<|l.map ZN)[i]?=J c->Rd w G c ((WS l).getD i xy)
 | [],i,c,h=>Zgd
 |x::l,i,c,h=>by
  rw[ZhN,RW]at h;have e:WS (x::l)=TE x++WS l:=by simp[WS]
  by_cases d:i<5
  match i,d with
  |0,_=>simp at h;subst h;exact .int _ _
  |1,_=>simp at h;subst h;exact .int _ _
  |2,_=>simp at h;subst h;exact .int _ _
  |3,_=>simp at h;subst h;exact .bool _
  |4,_=>simp at h;subst h;exact .int _ _
  have a:(flat<|l.map ZN)[i-5]?=J c:=by
   rw[Zhy Zgd]at h;simpa[ZN,V.cells]using h
  have:=MA (w:=w) (G:=G) l _ c a;have f:(TE x++WS l).getD i xy=(WS l).getD (i-5) xy:=by
   simp[List.getD_eq_getElem?_getD];rw[Zhy (by grind [TE])];simp[TE]
  simp_all
def Z79(l:List Ob):∀x∈l.map ZN,V.an 5 x:=by
 intro x a;obtain⟨o,_,rfl⟩:=Zhq.1 a;exact⟨rfl,Z1⟩
def MC{w G B e v l}(h:w.ownsRow B e 5 v (I l)<|WS l)(q:∀c,B<=c->c<xz (xj w)->G c):Rd w G (.sl<|l.map ZN) v:=by
 have a:=h.1;obtain⟨rfl,p⟩|⟨g,cap,j,rfl,r,t,o,d,_⟩:=h.2;have:l=[]:=Zgd;subst this;exact .nil _ _ Zgc
 have:=Rd.sl (w:=w) (G:=G) _ g 0 cap 5 (λi=>(WS l).getD i xy) Zgd d Zgc (Z79 l) (λi n=>by
   have f:i< I (WS l):=by rw[a];simpa using n
   rw[ZhZ,h.cellAt i Z0];simp[f]) (λi c k=>MA l i c k)
 simp_all
def Zbm{ws shs old K n xs W}(a:shs=[])(h:(n=0/\endS ws shs old K xs W)\/((n=2\/n=3)/\xs=[]/\ZQ ws shs old=([],n))):ZQ ws shs old=(xs,n):=by
 obtain⟨rfl,t,_,h⟩|⟨_,rfl,h⟩:=h;simp_all;exact h
def A9:RF:=by
 intro W O P;refine⟨Z2,λw G vs L p q=> ?_⟩;have r0:=q 0 _ rfl;obtain⟨⟨l⟩⟩:=vs;simp at p;rename_i v0 l;cases l with
 |cons _ _=>simp at p
 |nil=>
  simp at r0;obtain⟨g,o,cap,C,k,x,N⟩:=Z0j r0 L O P<|xz (xj w)+1;have z:=Z0d (w:=w) (shs:=[]) (old:=xw) (bt:=U) (K:=λt _=>t=0) C k ⟨x,Z0,Z0⟩ (.inl rfl) Z1 Z1 Z2J rfl (λt A B row h _ _=>h) (λQ base t A B _ _ h _=>h);obtain⟨S,T,sc,rfl⟩:∃a n c,v0=.slice a n c:=by
   obtain rfl|⟨_,a,c,rfl⟩:=k;simp;simp
  have D:=Zhf z;clear z C k r0 q;go_enter Z24,Tryz.ntmps85;go_wp2_with (go_at_call 97;refine D.out.mono ?_;rintro e w1 ⟨v,n,X,rfl,f,d,u⟩;have F:=Zhf<|And.intro f<|And.intro d u;clear f d u)
  obtain⟨f,d,u⟩:=F.out;have M:=Zbm rfl u;refine Zi0 (v:=.tuple #[v,.int .i64 n]) (by simp[results,Tryz.results85,go_sem]) rfl ⟨_,rfl,(Zhw _ w).grown f (Zhc _) (λj e=>by cases e),?_⟩;rw[M];refine .aq _ _ rfl ?_;intro i y r
  match i,r with
  |0,r=>cases r;exact MC d λc R H=>.inr ⟨Z0,H⟩
  |1,r=>cases r;exact .int _ _
def KpW.cell{j base A B}(h:KpW j base A B){k i c}(hc:A.cell? ⟨k,i,U⟩=J c)(n:k<base)(l:k≠j):B.cell? ⟨k,i,U⟩=J c:=by
 unfold World.cell? at hc;cases d:A.heap[k]? with
 |none=>simp_all
 |some g=>
  have f:g.isCells=xk:=by
   rw[d]at hc;cases g<;>simp_all [Obj.isCells]
  rw[<-hc];exact ZhX (a:=⟨k,i,U⟩)<|(h.same k g d f l Z0).trans d.symm
def KOld.grown{shs bt a t n v A B row}(h:KOld shs bt a v t A)(d:A.grownBy B row)(p:bt<n)(l:a<n)(u:shs≠[]->∀g o cap,v=.slice (J ⟨g,o,U⟩) (I shs) cap->g<n)(q:∀r,row=J r->n<=r):KOld shs bt a v t B:=by
 let⟨f,j,k⟩:=h;exact⟨(d.block _ Zgc Zgc).trans f,j.grown d Zgc Zgc,k⟩
def KOld.kp{shs bt d t n j base v A B}(h:KOld shs bt d v t A)(a:KpW j base A B)(u:bt<n)(r:d<n)(w:shs≠[]->∀g o cap,v=.slice (J ⟨g,o,U⟩) (I shs) cap->g<n)(D:n<=j)(h2:n<=base):KOld shs bt d v t B:=by
 let⟨k1,⟨y,z⟩,C⟩:=h;refine⟨a.same _ _ k1 rfl Z0 Z0,⟨a.same _ _ y rfl Z0 Z0,?_⟩,C⟩;obtain⟨g,o,cap,rfl,l,p,q,f⟩|h:=z;refine .inl ⟨g,o,cap,rfl,l,p,Zhj q a.size,λi x k=> ?_⟩;have:=w (λe=>Zgd) _ _ _ rfl;exact⟨a.cell (f i x k).1 Z0 Z0,a.cell (f i x k).2 Z0 Z0⟩;simp_all
def Words.sk{w W ws g o cap}(h:Words w ws g o cap)(f:ws≠[]->g<xz (xj w))(a:Below (xz<|xj w) w W):Words W ws g o cap:=
 ⟨λi x d=>by rw[a.cell (p:=⟨g,o+i,U⟩) Zgc];exact h.Y i x d,h.le,h.cap,h.len,h.u64⟩
def A8:RG:=by
 intro C d hl a7 hu b2;refine⟨Z2,λw G vs hG N P=> ?_⟩;have r0:=P 0 _ rfl;have r1:=P 1 _ rfl;obtain⟨⟨l⟩⟩:=vs;simp at N;rename_i v0 l;cases l with
 |nil=>simp at N
 |cons v1 l=>
 cases l with
 |cons _ _=>simp at N
 |nil=>
  simp at r0 r1;obtain⟨g,o,cap,hw,M,R,a0⟩:=Z0j r0 hG hl hu<|xz (xj w)+3;have O:=Zac r1 hG;obtain⟨sa,sn,sc,rfl⟩:∃a n c,v0=.slice a n c:=by
   obtain rfl|⟨_,a,c,rfl⟩:=M;simp;simp
  obtain⟨k,q,rfl⟩:∃a c,v1=.slice a (I d) c:=by
   grind
  have b0:((w.alloc<|.cells #[.slice k (I d) q] 164).alloc<|.cells #[.int .i64 0] 3).heap[xz<|xj w]?=J (.cells #[.slice k (I d) q] 164 (0,0)):=(Zht _ _ _ Z1).trans<|ZhB w _;have b1:((w.alloc<|.cells #[.slice k (I d) q] 164).alloc<|.cells #[.int .i64 0] 3).heap[xz (xj w)+1]?=J (.cells #[.int .i64 0] 3 (0,0)):=by
   have:=ZhB (w.alloc<|.cells #[.slice k (I d) q] 164)<|.cells #[.int .i64 0] 3;simp_all
  have z:Below (xz<|xj w) w<|(w.alloc<|.cells #[.slice k (I d) q] 164).alloc<|.cells #[.int .i64 0] 3:=((Zhw _ w).alloc (Zhc _) _).alloc Z1 _;have L:xz (xj<|(w.alloc<|.cells #[.slice k (I d) q] 164).alloc<|.cells #[.int .i64 0] 3)=xz (xj w)+2:=Z1;have a5:d≠[]->∀g o cap,Value.slice k (I d) q=.slice (J ⟨g,o,U⟩) (I d) cap->g<xz (xj w):=by
   intro X g o cap e;obtain⟨g1,Y,c1,e1,_,_,h4,_⟩|⟨_,_,_,h⟩:=O;simp_all;simp_all
  have W:Calls xP 97 #[.slice sa sn sc,.func (.func 98) #[] #[.pointer<|J ⟨xz (xj w)+1,0,U⟩,.pointer<|J ⟨xz<|xj w,0,U⟩]] ((w.alloc<|.cells #[.slice k (I d) q] 164).alloc<|.cells #[.int .i64 0] 3)
    (Fi ((w.alloc<|.cells #[.slice k (I d) q] 164).alloc<|.cells #[.int .i64 0] 3) C d xk (J<|xz (xj w)+1)<|KOld d (xz (xj w)+1) (xz<|xj w)<|.slice k (I d) q):=by
   generalize a8:(w.alloc<|.cells #[.slice k (I d) q] 164).alloc (.cells #[.int .i64 0] 3)=W1 at*;have K:d≠[]->∀g o cap,Value.slice k (I d) q=.slice (J ⟨g,o,U⟩) (I d) cap->g<xz (xj W1):=λX g o cap e=>Zgc;refine Z0d (hw.sk R z) M ⟨λh=>Zgc,Z0,Z0⟩ (.inr ⟨_,_,rfl⟩) (λr e=>Zgc) (λe=>Zgc) (Z2K a7 Z0<|λX g o cap e=>Zgc) ⟨b1,⟨b0,?_⟩,Z0⟩ (λt A B row h hg hr=>h.grown hg (n:=xz<|xj W1) Z0 Z0 K hr) (λbl base t A B h1 h2 h W=>h.kp W (n:=xz<|xj W1) Z0 Z0 K h1 h2);obtain⟨g1,Y,c1,e1,a1,a2,a3,a4⟩|⟨a,c,e1,h⟩:=O;exact .inl ⟨g1,Y,c1,e1,a1,a2,Z0,λi x hx=>⟨(z.cell (p:=⟨g1,Y+i*2,U⟩) a3).trans (a4 i x hx).1,(z.cell (p:=⟨g1,Y+i*2+1,U⟩) a3).trans (a4 i x hx).2⟩⟩;simp_all
  have F:∀w1 v n (Q:List Ob),(v=.slice U 0 0/\Q=[]\/w1.ownsRow (xz (xj w)+6) 71 5 v (I Q) (WS Q))->ZQ C d xk=(Q,n)->Rd w1 (λb=>xk=xw/\G b\/xz (xj w)<=b/\b<xz (xj w1)) (.aq [.sl<|(ZQ C d xk).1.map ZN,vi (ZQ C d xk).2]) (.tuple #[v,.int .i64 n]):=by
   intro w1 v n Q f hW;rw[hW];refine .aq _ _ rfl ?_;intro i y T
   match i,T with
   |0,T=>
    cases T;obtain⟨rfl,rfl⟩|f:=f;exact .nil _ _ (by grind [maxLen]);exact MC f λc h1 h2=>.inr ⟨Z0,h2⟩
   |1,T=>cases T;exact .int _ _
  have S:Calls xP 97 #[.slice sa sn sc,.func (.func 98) #[] #[.pointer<|J ⟨xz (xj w)+1,0,U⟩,.pointer<|J ⟨xz<|xj w,0,U⟩]] ((w.alloc<|.cells #[.slice k (I d) q] 164).alloc<|.cells #[.int .i64 0] 3) λe w1=>
    (∃(v:Value) (t:Nat),e=.returned (.tuple #[v,.int .i64 0])/\w1.cell? ⟨xz (xj w)+1,0,U⟩=J (.int .i64 t)/\w1.cell? ⟨xz<|xj w,0,U⟩=J (.slice k (I d) q)/\(t:Int)<I d/\Hid (Below (xz<|xj w) w w1/\Rd w1 (λb=>xk=xw/\G b\/xz (xj w)<=b/\b<xz (xj w1)) (.aq [.sl<|(ZQ C d xk).1.map ZN,vi (ZQ C d xk).2]) (.tuple #[.slice U 0 0,.int .i64 3])))\/
    (∃(v:Value) (t:Nat),e=.returned (.tuple #[v,.int .i64 0])/\w1.cell? ⟨xz (xj w)+1,0,U⟩=J (.int .i64 t)/\w1.cell? ⟨xz<|xj w,0,U⟩=J (.slice k (I d) q)/\¬(t:Int)<I d/\Hid (Below (xz<|xj w) w w1/\Rd w1 (λb=>xk=xw/\G b\/xz (xj w)<=b/\b<xz (xj w1)) (.aq [.sl<|(ZQ C d xk).1.map ZN,vi (ZQ C d xk).2]) (.tuple #[v,.int .i64 0])))\/
    (∃(v:Value) (n:Int),e=.returned (.tuple #[v,.int .i64 n])/\¬n=0/\Hid (Below (xz<|xj w) w w1/\Rd w1 (λb=>xk=xw/\G b\/xz (xj w)<=b/\b<xz (xj w1)) (.aq [.sl<|(ZQ C d xk).1.map ZN,vi (ZQ C d xk).2]) (.tuple #[.slice U 0 0,.int .i64 n]))):=by
   refine W.mono ?_;rintro e w1 ⟨v,n,Q,rfl,a6,f,hE⟩;rw[L]at f;have hB:Below (xz<|xj w) w w1:=z.trans<|(Zhw _ _).grown a6 Z0 (λj e=>Zgc);obtain⟨rfl,t,⟨hb,hs,ht⟩,u⟩|⟨X,rfl,u⟩:=hE;have Z:w1.cell? ⟨xz (xj w)+1,0,U⟩=J (.int .i64 t):=by rw[Zhl _ _ _ _ _ _ hb];rfl
   have q2:w1.cell? ⟨xz<|xj w,0,U⟩=J (.slice k (I d) q):=by rw[Zhl _ _ _ _ _ _ hs.box];rfl
   by_cases D:t<I d;rw[Zhi D]at u;exact .inl ⟨v,t,rfl,Z,q2,Z0,Zhf ⟨hB,F w1 _ _ [] (.inl ⟨rfl,rfl⟩) u⟩⟩;rw[Zhg D]at u;exact .inr<|.inl ⟨v,t,rfl,Z,q2,Z0,Zhf ⟨hB,F w1 _ _ Q (.inr f) u⟩⟩;exact .inr<|.inr ⟨v,n,rfl,Z0,Zhf ⟨hB,F w1 _ _ [] (.inl ⟨rfl,rfl⟩) u⟩⟩
  have HK:=Zhf S;clear hw M r0 r1 P O R a0 W S z b0 b1 a5 L F;go_enter Z26,Tryz.ntmps87;have a9:∀(fn:Go.Fn) (first cap:Array Value) (w:World),(Instr.makeFunc fn first cap).run xP w=.ok (.func fn first cap) w:=λ_ _ _ _=>rfl;go_wp2_with (go_at_call 97;refine HK.out.mono ?_;rintro e w1 (⟨v,t,rfl,Z,q2,D,H⟩|⟨v,t,rfl,Z,q2,D,H⟩|⟨v,n,rfl,X,H⟩))
  .refine Zi0 (v:=.tuple #[.slice U 0 0,.int .i64 3]) (by simp[results,Tryz.results87,go_sem]) rfl ⟨_,rfl,H.out.1,H.out.2⟩
  .refine Zi0 (v:=.tuple #[v,.int .i64 0]) (by simp[results,Tryz.results87,go_sem]) rfl ⟨_,rfl,H.out.1,H.out.2⟩
  .refine Zi0 (v:=.tuple #[.slice U 0 0,.int .i64 n]) (by simp[results,Tryz.results87,go_sem]) rfl ⟨_,rfl,H.out.1,H.out.2⟩
end Vm
namespace Vm
open Go Go.Proofs Go.RowKit
def Z7a{w G l v}(r:Rd w G (.sl<|l.map ZN) v)(t:∀b,G b->b<xz (xj w)):
  (∃g o cap,v=.slice (J ⟨g,o,U⟩) (I l) cap/\I l<=cap/\cap<=maxLen/\g<xz (xj w)/\∀i x,l[i]?=J x->w.cell? ⟨g,o+i*5,U⟩=J (.int .i64 x.Y)/\w.cell? ⟨g,o+i*5+1,U⟩=J (.int .i64 x.size)/\
   w.cell? ⟨g,o+i*5+2,U⟩=J (.int .i64 x.M)/\w.cell? ⟨g,o+i*5+3,U⟩=J (.bool x.gone)/\w.cell? ⟨g,o+i*5+4,U⟩=J (.int .u64 x.target))\/
  (∃a cap,v=.slice a 0 cap/\l=[]):=by
 generalize u:l.map ZN=L at r;cases r with
 |nil a cap F=>
  simp_all
 |sl _ b o cap k vs j n p d q h=>
  subst u;simp only[ZhM]at j q⊢;refine .inl ⟨b,o,cap,rfl,j,n,t b p,λi x y=> ?_⟩;have f:(l.map ZN)[i]?=J (ZN x):=by rw[Zhz,y];rfl
  have K:k=5:=((d _<|Zhh f).1).symm;have H:i<I l:=Zgc;have z:=h (i*5) (vi x.Y) (by have:=Vt d f 0 Z0;simp_all);have A:=h (i*5+1) (vi x.size) (by have:=Vt d f 1 Z0;simp_all);have B:=h (i*5+2) (vi x.M) (by have:=Vt d f 2 Z0;simp_all);have C:=h (i*5+3) (.bool x.gone) (by have:=Vt d f 3 Z0;simp_all);have D:=h (i*5+4) (vu x.target) (by have:=Vt d f 4 Z0;simp_all);grind [Se,Nat.add_assoc,OE]
end Vm
end
section

end
section
namespace Vm
open Go Go.Proofs
def zA{h:Hp}(a:h.ok):VC xP 10 xw [ZM h]<|.bool<|YQ h:=by
 rw[<-(BH h).1];exact Z0z A9 A8 a
def Eu{h:Hp}(a:h.ok){k:Int}:VC xP 21 xw [ZM h,vi k]<|.aq [.sl<|(VS h k).1.map ZN,vi (VS h k).2]:=by
 rw[<-Z63 h k];exact Z0y A9 A8 a
def Z0B{h:Hp}(a:h.ok):VC xP 27 xw [ZM h]<|vi<|JW h:=by
 rw[<-Z67 h];exact Z0C A9 A8 a
def VN(l:Zi):List<|Int×Int:=(l.filter λo=>o.gone).map λo=>(o.size,o.M)
def Z0b{ws:Z6}{shs:List (Int×Int)}{old:Bool}:∀(l:Zi) (f a k:Nat) (g:Zi),Tiles ws old a l->I ws<f+a->0<f->shs.drop k=VN l->Xu ws shs old f a k g=(g++l,0)
 | [],f,a,k,g,D,M,K,B=>by
   obtain⟨f,rfl⟩:∃C,f=C+1:=⟨f-1,Z0⟩;have:I ws<=a:=D;have r:I shs<=k:=List.drop_eq_nil_iff.1 B;rw[Xu,ZhP this];simp only;rw[Zhg Z0,ZiE]
 |o::l,f,a,k,g,D,M,K,B=>by
  obtain⟨f,rfl⟩:∃C,f=C+1:=⟨f-1,Z0⟩;obtain⟨t,r,L⟩:=D;obtain⟨w,F,j⟩:=r.word;have O:=YN.1 r.shape;have u:=r.an;have q:=r.gm;rw[t]at F u q;simp only[Zhm]at F q;have z:∀d:Nat,shs.drop d=VN l->Xu ws shs old f (a+1+o.size.toNat) d (g++[o])=(g++o::l,0):=λd p=>by
   rw[Z0b l f _ d _ L Z0 Z0 p];simp
  have y:∃d,Wl shs old a k w=J (o,d)/\shs.drop d=VN l:=by
   unfold Wl;cases n:o.gone;rw[n]at j;simp only[Zhu,Zif]at j;rw[Zhg (λh=>j.1 h.1 h.2),j.2.1];refine⟨k,?_,?_⟩;simp only[Zi9];obtain⟨P,R,op,Q,S⟩:=o;simp only at n t j⊢;rw[n,t,j.2.2];rw[B];simp[VN,n];rw[n]at j;simp only[Zi9]at j;rw[Zhi ⟨j.1,j.2.1⟩];have A:shs.drop k=(o.size,o.M)::VN l:=by rw[B];simp[VN,n]
   have x:k<I shs:=by
    have:=Zii List.length A;simp at this;omega
   rw[Zi6 x]at A;have G:=(List.cons.inj A).1;have H:=(List.cons.inj A).2;rw[Zh8 x,G];simp only[r.shape,Zi9];refine⟨k+1,?_,H⟩;obtain⟨P,R,op,Q,S⟩:=o;simp only at n t j⊢;rw[n,t,j.2.2]
  obtain⟨d,N,p⟩:=y;rw[Xu,F];simp only;rw[N];simp only;rw[Zhg Z0,Zhg (by rw[q];simp)];exact z d p
def zm{ws:Z6}{shs:List (Int×Int)}{old:Bool}{l:Zi}(d:Tiles ws old 0 l)(a:shs=VN l):ZQ ws shs old=(l,0):=by
 unfold ZQ;rw[Z0b l (I ws+1) 0 0 [] d Z0 Z0 ZgS,Zi8]
def QI(h:Hp)(low l:Zi):Prop:=∀o∈l,o.gone=xk->∃q,YF h 1 low o.target=J q/\q.size=o.size/\q.M=o.M
def jA{h:Hp}{ws:Z6}{low:Zi}:∀(l:Zi) (f i:Nat) (a:List<|Int×Int),Tiles ws xk i l->I ws<f+i->0<f->QI h low l->V7 h ws low f i a=J (a++VN l)
 | [],f,i,a,u,D,B,r=>by
   obtain⟨f,rfl⟩:∃n,f=n+1:=⟨f-1,Z0⟩;have:I ws<=i:=u;rw[V7,ZhP this];simp[VN]
 |o::l,f,i,a,u,D,B,r=>by
  obtain⟨f,rfl⟩:∃n,f=n+1:=⟨f-1,Z0⟩;obtain⟨C,p,y⟩:=u;obtain⟨w,x,g⟩:=p.word;have F:=YN.1 p.shape;have j:=p.an;rw[C]at x j;simp only[Zhm]at x;have k:QI h low l:=λq t=>r q<|ZhK _ t;rw[V7,x];simp only;cases d:o.gone;rw[d]at g;simp only[Zhu,Zif,true_implies]at g;rw[Zhg g.1,g.2.1];simp only[Zi9];rw[jA l f _ a y Z0 Z0 k];simp[VN,d];rw[d]at g;simp only[Zi9,true_and]at g;rw[Zhi g.1];obtain⟨q,t,z,A⟩:=r o (.head _) d;rw[<-g.2,t];simp only;rw[z,A,jA l f _ _ y Z0 Z0 k];simp[VN,d]
def NZ{h:Hp}{p:Pts}(d:Tiles h.H xw 0 p.H)(h2:Tiles h.ae xw 0 p.ae)(f:Tiles h.ah xk 0 p.ah)(g:Tiles h.aj xk 0 p.aj)(q:QI h p.H p.ah)(r:QI h p.H p.aj):Xo h=J p:=by
 have k:∀ {n:Z6} {a:Nat} {l:Zi},Tiles n xw a l->VN l=[]:=λ{n a l} x=>by
  unfold VN;rw[List.map_eq_nil_iff,Zkb];intro o u t;obtain⟨w,_,j⟩:=(x.bd o u).1.word;rw[Zhi t]at j;cases j.1
 unfold Xo;rw[zm d (k d).symm,zm h2 (k h2).symm];unfold VB;simp only[Zls,ZkU,or_self,Zif];rw[jA p.ah _ 0 [] f Z0 Z0 q,jA p.aj _ 0 [] g Z0 Z0 r];simp only[Zi8,ZhE];rw[zm f rfl,zm g rfl];simp
def OY{h:Hp}{p:Pts}(a:TC h=xk)(d:Xo h=J p)(f:Sk h p=xk):YQ h=xk:=by
 unfold YQ;rw[a,d];simpa using f
def FM{h:Hp}{k:Int}{l:Zi}{o:Ob}(a:o∈l)(f:∀q∈l,X3 h k q.Y=X3 h k o.Y->q=o):YF h k l (X3 h k o.Y)=J o:=by
 unfold YF;induction l with
 |nil=>simp at a
 |cons x l j=>
  rw[List.find?_cons];by_cases d:X3 h k x.Y=X3 h k o.Y;rw[f x (.head _) d];simp;have:(X3 h k x.Y==X3 h k o.Y)=xw:=Zgp;rw[this];obtain rfl|a:=Zhs.1 a;exact absurd rfl d;exact j a λq g=>f q<|ZhK _ g
def Aj{h:Hp}{k:Int}{l:Zi}{a:Int}:(YF h k l a).isSome=xk↔ ∃o∈l,X3 h k o.Y=a:=by
 unfold YF;rw[List.find?_isSome];simp
section
structure Tld (h:Hp) (p:Pts):Prop where
 be:ZD (Zv h)=xk
 am:∀k:Int,1<=k/\k<=4->Tiles (Zx h k) (decide (2<k)) 0 (p.at k)
def Gos(h:Hp)(p:Pts)(w one a:Int):Prop:=w=0\/∃k o,(k=one\/k=a)/\o∈p.at k/\w=ZO (Zv h) k o.Y
def Xw(h:Hp)(p:Pts)(k:Int)(i:Nat)(w:Int):Prop:=if 2<k then Gos h p w 3 4 else if k=1/\h.Z<=i then Gos h p w 1 2\/Gos h p w 3 4 else Gos h p w 1 2
section
variable {h:Hp}{p:Pts}
def Tld.ob(t:Tld h p){k:Int}(g:1<=k/\k<=4){o:Ob}(j:o∈p.at k):∃a n m:Nat,o.Y=a/\o.size=n/\o.M=m/\a+(n+1)<=I (Zx h k)/\n<=255/\m<=n:=by
 have d:=((t.am k g).bd o j).1;have f:=YN.1 d.shape;obtain⟨a,l⟩:=Zhp d.kx;obtain⟨n,r⟩:=Zhp f.1;obtain⟨m,q⟩:=Zhp f.2.2.1;have:=d.an;grind
def Tld.start(t:Tld h p){k:Int}(d:1<=k/\k<=4){o:Ob}(f:o∈p.at k):X3 h k o.Y=ZC (Zv h) k+o.Y:=by
 obtain⟨a,n,m,g,_,_,j,_⟩:=t.ob d f;unfold X3;rw[SD t.be d (by grind [Ti])]
def Tld.db(t:Tld h p){k:Int}(d:1<=k/\k<=4){o q:Ob}(f:o∈p.at k)(g:q∈p.at k)(e:q.Y=o.Y):q=o:=by
 rcases(t.am k d).apart q g o f with a|a|a;exact a;have:=YN.1 ((t.am k d).bd q g).1.shape;omega;have:=YN.1 ((t.am k d).bd o f).1.shape;omega
def Tld.find(t:Tld h p){k:Int}(a:1<=k/\k<=4){o:Ob}(d:o∈p.at k):YF h k (p.at k) (ZC (Zv h) k+o.Y)=J o:=by
 rw[<-t.start a d];refine FM d λq f e=>t.db a d f ?_;rw[t.start a d,t.start a f]at e;omega
theorem Tld.inj(t:Tld h p){k j:Int}(d:1<=k/\k<=4)(f:1<=j/\j<=4){o q:Ob}(g:o∈p.at k)(l:q∈p.at j)(e:ZO (Zv h) k o.Y=ZO (Zv h) j q.Y):k=j/\o=q:=by
 obtain⟨a,n,m,x,_,_,z,_⟩:=t.ob d g;obtain⟨b,B,A,y,_,_,w,_⟩:=t.ob f l;obtain⟨r,u⟩:=Z96 t.be d f (by grind [Ti]) (by grind [Ti]) e;subst r;exact⟨rfl,t.db d l g u⟩
def Tld.lx(t:Tld h p){k:Int}(d:1<=k/\k<=4){o:Ob}(f:o∈p.at k):adr (ZO (Zv h) k o.Y)=(ZC (Zv h) k+o.Y,0):=by
 obtain⟨a,n,m,g,_⟩:=t.ob d f;exact V9 t.be Z0
def Tld.nq(t:Tld h p){k:Int}(d:1<=k/\k<=4){w:Int}(f:(Vm.adr w).2=0):(YF h k (p.at k) (Vm.adr w).1).isSome=xk↔ ∃o∈p.at k,w=ZO (Zv h) k o.Y:=by
 rw[Aj];constructor;rintro⟨o,a,e⟩;rw[t.start d a]at e;exact⟨o,a,Ef f e.symm⟩;rintro⟨o,a,rfl⟩;exact⟨o,a,by rw[t.lx d a,t.start d a]⟩
def Tld.dq(t:Tld h p){i j:Int}(g:1<=i/\i<=4)(l:1<=j/\j<=4){w:Int}:XD h p w i j=xk↔Gos h p w i j:=by
 unfold XD Gos;by_cases d:w=0;simp[d];by_cases a:(Vm.adr w).2=0;simp only[d,a,Zln,ZkL,Zkp,ZjN,Zhr,false_or,t.nq g a,t.nq l a];simp;simp only[d,a,ZkL,Zkh,Bool.or_self,Zhu,false_or,false_iff];rintro⟨k,o,n,q,rfl⟩;have f:1<=k/\k<=4:=by obtain rfl|rfl:=n<;>assumption
 exact a (by rw[t.lx f q])
def PE:∀ {l:Z6} {a:Int} {i:Nat},XP l xk a i=xk->∀w∈l,w=0
 | [],_,_,_,w,d=>by simp at d
 |y::l,a,i,f,w,d=>by
  simp only[XP,Zhb]at f;obtain rfl|d:=Zhs.1 d;have g:=f.1;simp at g;exact g.1;exact PE f.2 w d
def Tld.vn(t:Tld h p){k:Int}(d:1<=k/\k<=4){o:Ob}(f:o∈p.at k){j:Nat}(x:(j:Int)<o.size):∃w,(Zx h k)[o.Y.toNat+1+j]?=J w/\(o.gone=xk->w=0):=by
 obtain⟨a,n,m,l,u,z,y,_⟩:=t.ob d f;have r:a+1+j< I (Zx h k):=Z0;refine⟨(Zx h k)[a+1+j],Zgd,λq=> ?_⟩;have g:=((t.am k d).bd o f).1.gm;rw[q]at g;refine PE g _ ?_;rw[l,u,Zhm,Zhm];refine Zhh (i:=j) ?_;simp_all
end
structure Body (h:Hp) (p:Pts):Prop extends Tld h p where
 gone:∀k:Int,3<=k/\k<=4->∀o∈p.at k,o.gone=xk->∃q∈p.H,o.target=ZC (Zv h) 1+q.Y/\q.size=o.size/\q.M=o.M
 ptr:∀k:Int,1<=k/\k<=4->∀o∈p.at k,o.gone=xw->∀j:Nat,(j:Int)<o.M->∀w,(Zx h k)[o.Y.toNat+1+j]?=J w->Xw h p k (o.Y.toNat+1+j) w
 room:(I h.H:Int)+I h.ae+X4 p<=h.cap
structure Rt (h:Hp) (p:Pts):Prop extends Body h p where
 gt:I h.E<=16
 ft:0<=h.Z
 fu:h.Z<=I h.H
 ku:h.aa=xk->h.Z<I h.H
 rest:h.aa=xw->h.Z=I h.H/\h.ah=[]/\h.aj=[]
 lf:h.aa=xk->∀o∈p.H,UK p (ZC (Zv h) 1+o.Y)=1
 E:∀w∈h.E,Gos h p w 1 2
section
variable {h:Hp}{p:Pts}
def EL(t:Tld h p){k:Int}{i:Nat}{w:Int}(a:(Zx h k)[i]?=J w):Ui h p k i=xk↔Xw h p k i w:=by
 unfold Ui Xw;simp only[a,ZhE];split;exact t.dq Z0 Z0;split;rw[Zhr,t.dq Z0 Z0,t.dq Z0 Z0];exact t.dq Z0 Z0
theorem Z19(k:Int)(i:Nat):Xw h p k i 0:=by
 unfold Xw;split;exact .inl rfl;split;exact .inl<|.inl rfl;exact .inl rfl
def Oj(t:Tld h p){k:Int}(g:1<=k/\k<=4):WE h p k=xk↔ ∀o∈p.at k,o.gone=xw->∀j:Nat,(j:Int)<o.M->∀w,(Zx h k)[o.Y.toNat+1+j]?=J w->Xw h p k (o.Y.toNat+1+j) w:=by
 unfold WE qs;simp only[Zhn,ZjR];constructor;intro l o d _ j q w f;exact(EL t f).1 (l o d j Z0);intro l o d j q;obtain⟨a,n,m,r,y,x,u,_⟩:=t.ob g d;obtain⟨w,f,z⟩:=t.vn g d (j:=j) Z0;refine(EL t f).2 ?_;grind [Z19]
def RightH.wx(r:RightH h p):Tld h p:=⟨r.be,λk a=>r.am a⟩
def RightH.rt(r:RightH h p):Rt h p:=by
 have t:=r.wx;have j:=r.num;have a:=r.ok;unfold TC at j;unfold Sk at a;simp only[Zhb,ZhG]at j a;obtain⟨⟨⟨⟨G,A⟩,B⟩,C⟩,H⟩:=j;obtain⟨⟨⟨⟨⟨⟨l,D⟩,K⟩,L⟩,M⟩,N⟩,F⟩:=a;have f:∀k:Int,1<=k/\k<=4->WE h p k=xk:=λk d=>by
  have:k=1\/k=2\/k=3\/k=4:=Z0;grind
 refine⟨⟨t,λk d o a y=> ?_,λk d=>(Oj t d).1<|f k d,F⟩,A,B,C,λg=> ?_,λg=> ?_,λg o a=> ?_,λw z=> ?_⟩;obtain⟨q,n,e,u,x⟩:=r.ot d a y;exact⟨q,n,by rw[<-e,t.start (k:=1) Z0 n],u,x⟩;simp_all;simp_all;rw[g]at l;simp only[Zkq,Zkp,Zhn]at l;have:=l o a;unfold Rr at this;rw[t.start (k:=1) Z0 a]at this;simp_all;exact(t.dq Z0 Z0).1 (Zhn.1 D w z)
def Rt.ei(r:Rt h p):Xo h=J p:=by
 have g:∀k:Int,3<=k/\k<=4->QI h p.H (p.at k):=λk j o l f=>by
  obtain⟨q,n,e,a,d⟩:=r.gone k j o l f;exact⟨q,by rw[e];exact r.toTld.find (k:=1) Z0 n,a,d⟩
 exact NZ (r.am 1 Z0) (r.am 2 Z0) (r.am 3 Z0) (r.am 4 Z0) (g 3 Z0)<|g 4 Z0
theorem Rt.right(r:Rt h p):YQ h=xk:=by
 have t:=r.toTld;refine OY ?_ r.ei ?_;unfold TC;simp only[Zhb,ZhG];refine⟨⟨⟨⟨r.be,r.gt⟩,r.ft⟩,r.fu⟩,?_⟩;cases a:h.aa;obtain⟨l,n,q⟩:=r.rest a;simp_all;simp[r.ku a];unfold Sk;simp only[Zhb,ZhG];have d:=λk f=>(Oj t f).2<|r.ptr k f;refine⟨⟨⟨⟨⟨⟨?_,?_⟩,d 1 Z0⟩,d 2 Z0⟩,d 3 Z0⟩,d 4 Z0⟩,r.room⟩;cases a:h.aa;rfl;simp only[Zkq,Zkp,Zhn];intro o g;unfold Rr;rw[t.start (k:=1) Z0 g,ZhG];exact r.lf a o g;rw[Zhn];exactλw j=>(t.dq Z0 Z0).2<|r.E w j
def jj:YQ h=xk↔ ∃p,Rt h p:=
 ⟨λa=>by obtain⟨p,r⟩:=Z9n a;exact⟨p,r.rt⟩,λ⟨p,r⟩=>r.right⟩
def Rt.vb(r:Rt h p){k:Int}(a:1<=k/\k<=4):VS h k=(p.at k,0):=by
 unfold VS;rw[Zhi ⟨r.right,a⟩,r.ei];rfl
def Rt.vp(r:Rt h p):JW h=X4 p:=by
 unfold JW;rw[Zhi r.right,r.ei];rfl
end
end
section
def UJ(l:Zi):Nat:=(l.map λo=>1+o.size.toNat).sum
def Tiles.sum{ws old}:∀ {a} {l:Zi},Tiles ws old a l->a<=I ws->a+UJ l=I ws
 |a,[],h,d=>by have:I ws<=a:=h;simp[UJ];omega
 |a,o::l,h,d=>by
  have g:=YN.1 h.2.1.shape;have f:=h.2.1.an;rw[h.1]at f;have:=Tiles.sum h.2.2 Z0;simp[UJ]at this⊢;omega
def Tiles.mc{ws old l}(h:Tiles ws old (I ws) l):l=[]:=by
 obtain _|⟨o,l⟩:=l;rfl;have d:=YN.1 h.2.1.shape;have a:=h.2.1.an;rw[h.1]at a;omega
def Tiles.uw{ws d old}:∀ {a} {l j:Zi},Tiles ws old a l->Tiles d old a j->(∀i,i<I ws->d[i]?=ws[i]?)->I ws<=I d->
  (∀o∈l,∀q∈j,o.gone=xk->q.gone=xk->o.target=q.target->o.size=q.size/\o.M=q.M)->a<=I ws->∃r,j=l++r/\Tiles d old (I ws) r
 |a,[],j,h,k,_,_,_,p=>by
  have:I ws<=a:=h;grind
 |a,o::l,[],h,k,_,z,_,p=>by
  have H:=YN.1 h.2.1.shape;have t:=h.2.1.an;have e:=h.1;have:I d<=a:=k;omega
 |a,o::l,q::j,h,k,A,z,G,p=>by
  let⟨B,n,C⟩:=h;let⟨k1,M,N⟩:=k;have H:=YN.1 n.shape;have t:=n.an;let⟨w,g,D⟩:=n.word;let⟨u,f,F⟩:=M.word;rw[B]at g t;rw[k1]at f;simp[Zhm]at g f;rw[A a Z0,g]at f;have e:o=q:=by
   let⟨S,T,op,O,W⟩:=o;let⟨X,Z,Y,P,qt⟩:=q;cases O<;>cases P<;>simp at D F
   simp_all;simp_all;simp_all;simp_all
  subst e;let⟨r,Q,R⟩:=Tiles.uw C N A z (λx K y L=>G x (.tail _ K) y<|.tail _ L) Z0;simp_all
def Tiles.et{ws old l a}(h:Tiles ws old 0 l)(h':Tiles ws old 0 a)(g:∀o∈l,∀q∈a,o.gone=xk->q.gone=xk->o.target=q.target->o.size=q.size/\o.M=q.M):a=l:=by
 let⟨r,d,f⟩:=h.uw h' Z1 Z0 g Z0;rw[d,f.mc,ZiE]
def Tiles.dk{ws a l}(h:Tiles ws xw a l):∀o∈l,o.gone=xw:=λo d=>by
 let⟨w,_,f⟩:=(h.bd o d).1.word;simp_all
def Tiles.np{ws l f}(h:Tiles ws xw 0 l)(h':Tiles ws xw 0 f):=h.et h' λo d q g a=>by rw[h.dk o d]at a;cases a
section
variable {h:Hp}{p:Pts}
def Tld.nx(t:Tld h p){o}(d:o∈p.H):0<=o.Y/\o.Y<I h.H:=by
 let⟨a,n,m,f,_,_,g,_⟩:=t.ob (k:=1) Z0 d;grind [WD]
def Tiles.dt{ws old}:∀ {a} {l:Zi},Tiles ws old a l->l.Pairwise λx y=>x.Y<y.Y
 |_,[],_=>.nil
 |a,o::l,h=>by
  refine .cons (λy d=> ?_)<|Tiles.dt h.2.2;have:=(Tiles.bd h.2.2 y d).2;rw[h.1];omega
def Gos.vz(t:Tld h p){w i j}(r:1<=i/\i<=4)(u:1<=j/\j<=4)(l:Gos h p w i j):w=0\/∃k,1<=k/\k<=4/\(k=i\/k=j)/\∃o∈p.at k,(adr w).2=0/\(adr w).1=ZC (Zv h) k+o.Y/\o.Y<Y5 (Zv h) k/\0<=o.Y:=by
 obtain rfl|⟨k,o,g,f,rfl⟩:=l;omega;have d:1<=k/\k<=4:=by obtain rfl|rfl:=g<;>assumption
 let⟨a,n,m,q,_,_,x,_⟩:=t.ob d f;exact .inr ⟨k,d.1,d.2,g,o,f,by rw[t.lx d f],by rw[t.lx d f],by grind [Ti],Z0⟩
end
end
section
section
variable {h:Hp}{p:Pts}
def Body.ib(r:Body h p){k:Int}(d:1<=k/\k<=2){o:Ob}(f:o∈p.at k):Vm.fwd h (ZO (Zv h) k o.Y)=(ZO (Zv h) k o.Y,h,0):=by
 obtain⟨a,n,m,g,_,_,j,_⟩:=r.toTld.ob Z0 f;exact Vm.fwd_here r.be d ⟨Z0,Z0⟩
def Body.fw(r:Body h p){k:Int}(q:3<=k/\k<=4){o:Ob}(g:o∈p.at k)(l:o.gone=xk):Vm.fwd h (ZO (Zv h) k o.Y)=(2*o.target+1,h,0):=by
 obtain⟨a,n,m,f,_,_,t,_⟩:=r.toTld.ob Z0 g;obtain⟨u,j,d⟩:=((r.am k Z0).bd o g).1.word;rw[Zhi l]at d;rw[f,Zhm]at j;rw[f,Vm.fwd_gone r.be q j d.2.1,Ef d.2.1 d.2.2.symm]
def Body.ej(r:Body h p){k:Int}(t:3<=k/\k<=4){o:Ob}(f:o∈p.at k)(q:o.gone=xw){a n:Nat}(j:o.Y=a)(l:o.size=n):
  Vm.fwd h (ZO (Zv h) k o.Y)=(ZO (Zv h) 1<|I h.H,Yf h k a<|n+1,0)/\((n+1:Nat):Int)<=Xt (Zv h):=by
 obtain⟨z,y,m,A,B,_,C,_⟩:=r.toTld.ob Z0 f;have:z=a:=Z0;subst this;have:y=n:=Z0;subst this;obtain⟨u,x,d⟩:=((r.am k Z0).bd o f).1.word;rw[Zhg (by simp[q])]at d;rw[j,Zhm]at x;have D:=r.room;have g:=Zbj t f;unfold WH at g;rw[q,l]at g;simp at g;have e:Xt (Zv h)=h.cap-I h.H-I h.ae:=by unfold Xt;rw[Zhi r.be];rfl
 have w:((y+1:Nat):Int)<=Xt (Zv h):=Z0;rw[j];exact⟨Vm.fwd_wait r.be t x (d.1<|ZjD Z0) (by rw[d.2.1,l]) C w,w⟩
end
def Jk(h:Hp){k:Int}(d:3<=k/\k<=4)(a n:Nat):(Yf h k a n).H=h.H++((Zx h k).take<|a+n).drop a/\(Yf h k a n).ae=h.ae/\Zx (Yf h k a n) k=(zr (Zx h k) a n).set a (ZO (Zv h) 1<|I h.H)/\Zx (Yf h k a n) (7-k)=Zx h (7-k)/\
  (Yf h k a n).E=h.E/\(Yf h k a n).Z=h.Z/\(Yf h k a n).aa=h.aa/\(Yf h k a n).cap=h.cap/\(Yf h k a n).base=h.base/\(Yf h k a n).to=h.to:=by
 have:k=3\/k=4:=Z0;obtain rfl|rfl:=this<;>exact⟨rfl,rfl,rfl,rfl,rfl,rfl,rfl,rfl,rfl,rfl⟩
end
section
def CA{h:Hp}{k j:Int}(g:1<=k/\k<=4)(f:1<=j/\j<=4)(l:Z6):Zx (YB h k l) j=if j=k then l else Zx h j:=by
 have a:k=1\/k=2\/k=3\/k=4:=Z0;have d:j=1\/j=2\/j=3\/j=4:=Z0;obtain rfl|rfl|rfl|rfl:=a<;>obtain rfl|rfl|rfl|rfl:=d<;>rfl
def ZR(b:Bt)(i:Nat):Nd:=(b.g.nodes[i]?).getD default
def ZF(b:Bt)(i:Nat):Pl:=(b.az[i]?).getD ⟨0,0⟩
def Y6(b:Bt)(i:Nat):Pl:=(b.ah[i]?).getD ⟨0,0⟩
def KR(n:Nd):Int:=(UD ((I n.M:Int)+I n.data)<|I n.M).1
def XR(b:Bt)(p:Pl)(n:Nd)(tw:Int):List Int:=KR n::(XX b p p.Y.toNat n.M tw++n.data)
def VM(b:Bt)(p:Pl)(n:Nd):List Int:=YI b.h p::List.replicate (ZL n-1) 0
def YX(b:Bt)(x:Rw)(k:Int)(i:Nat):List Int:=
 if(ZF b i).part=k then XR b (ZF b i) (ZR b i)<|IntKind.i64.wrap<|x.bj+i
 else if(Y6 b i).part=k then(if(ZF b i).part=0 then XR b (Y6 b i) (ZR b i) 0 else VM b (ZF b i)<|ZR b i)
 else []
def X6(b:Bt)(x:Rw)(k:Int)(i:Nat):List Int:=(List.range i).flatMap<|YX b x k
theorem U6(b:Bt)(x:Rw)(k:Int)(i:Nat):X6 b x k (i+1)=X6 b x k i++YX b x k i:=by
 simp_all[X6,Zjv,Zja]
theorem Uz(b:Bt)(p:Pl)(n:Nd)(tw:Int):I (XR b p n tw)=ZL n:=by
 grind [XR,XX,ZL]
theorem Q1(b:Bt)(p:Pl)(n:Nd):I (VM b p n)=ZL n:=by
 grind [VM,ZL]
structure Placed (b:Bt) (x:Rw):Prop where
 ok:BOk b
 az:∀i,i<I b.g.nodes->(ZF b i=⟨0,0⟩/\∃k:Int,(k=3\/k=4)/\(Y6 b i).part=k)\/(((ZF b i).part=1\/(ZF b i).part=2)/\(ZF b i).Y=(I (X6 b x (ZF b i).part i):Nat))
 ah:∀i,i<I b.g.nodes->Y6 b i=⟨0,0⟩\/(((Y6 b i).part=3\/(Y6 b i).part=4)/\(Y6 b i).Y=(I (X6 b x (Y6 b i).part i):Nat)/\(ZF b i).part≠2)
 zero:∀k:Int,1<=k/\k<=4->Zx b.h k=List.replicate (I<|X6 b x k<|I b.g.nodes) 0
section
variable {b d:Bt}{x:Rw}
def Dc(a:Like b d)(p:Pl):YI d.h p=YI b.h p:=by
 unfold YI;rw[a.be]
theorem Zap(a:Like b d)(p:Pl)(to tw:Int):Vl d p to tw=Vl b p to tw:=by
 unfold Vl;rw[a.az,a.ah,a.Z,Dc a,Dc a]
def Iq(a:Like b d)(p:Pl)(n:Nd)(tw:Int):XR d p n tw=XR b p n tw:=by
 grind [XR,XX,Zap]
def Bz{p:Pl}{a m:Nat}{n:Nd}{tw:Int}{F:Z6}(k:Zx d.h p.part=F++List.replicate m 0)(g:I F=a)(f:p.Y.toNat=a)(j:ZL n<=m):S5 d p a n tw=F++XR d p n tw++List.replicate (m-ZL n) 0:=by
 simp_all[S5,List.replicate,ZL,ZkY,ZiU,XR,KR]
def Za6{F:Z6}{a m s:Nat}{w:Int}(d:I F=a)(h:1<=s)(g:s<=m):(F++List.replicate m (0:Int)).set a w=F++(w::List.replicate (s-1) 0)++List.replicate (m-s) 0:=by
 rw[<-d,Zlb _ _<|Zhc _,Zj6];obtain⟨m,rfl⟩:∃f,m=f+1:=⟨m-1,Z0⟩;rw[List.replicate_succ,ZkK,ZhW];congr 1;simp;omega
def Kq(b:Bt)(x:Rw)(k:Int){i j:Nat}(h:i<=j):∃r,X6 b x k j=X6 b x k i++r:=by
 induction j with
 |zero=>simp_all
 |succ j d=>
  by_cases a:i=j+1;simp_all;grind [YX,U6,List.append_assoc]
def A7(b:Bt)(x:Rw)(i:Nat)(d:Bt):Prop:=∀k:Int,1<=k/\k<=4->Zx d.h k=X6 b x k i++List.replicate (I (X6 b x k<|I b.g.nodes)- I (X6 b x k i)) 0
def Dh(b:Bt)(x:Rw)(k:Int){i:Nat}(a:i<I b.g.nodes):I (X6 b x k i)+I (YX b x k i)<=I (X6 b x k<|I b.g.nodes):=by
 obtain⟨r,d⟩:=Kq b x k (Z0:i+1<=I b.g.nodes);grind [U6]
def Z3I(C:Placed b x){i:Nat}(G:i<I b.g.nodes)(z:Like b d)(w:A7 b x i d):A7 b x (i+1)<|J1 x d i:=by
 have T:(d.g.nodes[i]?).getD default=ZR b i:=by rw[z.g];rfl
 have X:(d.az[i]?).getD ⟨0,0⟩=ZF b i:=by rw[z.az];rfl
 have W:(d.ah[i]?).getD ⟨0,0⟩=Y6 b i:=by rw[z.ah];rfl
 unfold J1;simp only[T,X,W];have Z:=C.az i G;have Q:=C.ah i G;have r:=λk=>Dh b x k G;have j:∀k,YX b x k i=if(ZF b i).part=k then XR b (ZF b i) (ZR b i) (IntKind.i64.wrap<|x.bj+i)else if(Y6 b i).part=k then(if(ZF b i).part=0 then XR b (Y6 b i) (ZR b i) 0 else VM b (ZF b i)<|ZR b i)else []:=λk=>rfl
 have R:=Uz b (ZF b i) (ZR b i)<|IntKind.i64.wrap<|x.bj+i;have l2:=Uz b (Y6 b i) (ZR b i) 0;have l3:=Q1 b (ZF b i)<|ZR b i;have O:=Iq z (ZF b i) (ZR b i)<|IntKind.i64.wrap<|x.bj+i;have S:=Iq z (Y6 b i) (ZR b i) 0;generalize ZF b i=p at*;generalize Y6 b i=o at*;generalize ZR b i=n at*;have N:1<=ZL n:=by unfold ZL;omega
 obtain⟨rfl,ko,a,P⟩|⟨hp,Y⟩:=Z
 ·
  have K:(o.part=3\/o.part=4)/\o.Y=(I (X6 b x o.part i):Nat):=by
   obtain rfl|⟨h1,h2,_⟩:=Q;grind;omega
  have D:Us x d i n ⟨0,0⟩=d:=by unfold Us;rw[Zhg Z1]
  have F:Uu d n ⟨0,0⟩ o=Wj d o n 0:=by unfold Uu;rw[Zhi ⟨Z0,rfl⟩]
  have A:∀q,U8 q ⟨0,0⟩ o=q:=λq=>by simp_all[U8,Zhg]
  rw[D,F,A];intro k t;have l:YX b x o.part i=XR b o n 0:=by rw[j,Zhg Zgc,Zhi rfl,Zhi rfl]
  have y:=r o.part;rw[l,l2]at y;unfold Wj;simp only;rw[CA Z0 t];by_cases a:k=o.part;rw[Zhi a,a,Bz (w o.part Z0) Z0 rfl Z0,U6,l,S];grind;rw[Zhg a,U6,j k,Zhg Zgc,Zhg (λh=>a h.symm),ZiE];exact w k t
 have L:¬p.part=0:=Z0;have D:Us x d i n p=Wj d p n (IntKind.i64.wrap<|x.bj+i):=by unfold Us;rw[Zhi Z0]
 have F:∀q,Uu q n p o=q:=λq=>by simp_all[Uu,Zhg]
 rw[D,F];have B:YX b x p.part i=XR b p n (IntKind.i64.wrap<|x.bj+i):=by rw[j,Zhi rfl]
 have M:=r p.part;rw[B,R]at M;have u:∀k:Int,1<=k/\k<=4->Zx (Wj d p n<|IntKind.i64.wrap<|x.bj+i).h k=if k=p.part then X6 b x p.part (i+1)++List.replicate (I (X6 b x p.part<|I b.g.nodes)- I (X6 b x p.part<|i+1)) 0 else Zx d.h k:=by
  intro k t;unfold Wj;simp only;rw[CA Z0 t];by_cases f:k=p.part;rw[Zhi f,Zhi f,Bz (w p.part Z0) Z0 rfl Z0,U6,B,O];grind;simp_all
 have H:YI (Wj d p n<|IntKind.i64.wrap<|x.bj+i).h p=YI b.h p:=by
  unfold YI;have:Zv (Wj d p n<|IntKind.i64.wrap<|x.bj+i).h=Zv b.h:=by
   rw[<-z.be];unfold Wj;simp only;refine zp ?_;rw[Bz (w p.part Z0) Z0 rfl Z0,w p.part Z0,O];simp[R];omega
  rw[this]
 generalize Wj d p n (IntKind.i64.wrap<|x.bj+i)=q at*;obtain rfl|⟨a0,K,a1⟩:=Q;have A:U8 q p ⟨0,0⟩=q:=by simp_all[U8,Zhg]
 rw[A];intro k t;rw[u k t];by_cases f:k=p.part;simp_all;rw[Zhg f,U6,j k,Zhg (λh=>f h.symm),Zhg Zgc,ZiE];exact w k t;have A:U8 q p o= {q with h:=YB q.h o.part ((Zx q.h o.part).set o.Y.toNat<|YI q.h p)}:=by unfold U8;rw[Zhi ⟨Z0,Z0⟩]
 rw[A];have l:YX b x o.part i=VM b p n:=by rw[j,Zhg Z0,Zhi rfl,Zhg L]
 have y:=r o.part;rw[l,l3]at y;intro k t;simp only;rw[CA Z0 t,u o.part Z0,Zhg (Z0:¬o.part=p.part),w o.part Z0,H];by_cases a:k=o.part;rw[Zhi a,a,Za6 Z0 N Z0,U6,l];grind [VM];rw[Zhg a,u k t];by_cases f:k=p.part;simp_all;rw[Zhg f,U6,j k,Zhg (λh=>f h.symm),Zhg (λh=>a h.symm),ZiE];exact w k t
def GB(a:Placed b x):∀i,i<=I b.g.nodes->A7 b x i (Ut x b i)
 |0,_=>by
  intro k d;rw[Ut,a.zero k d];simp[X6]
 |i+1,f=>by
  rw[Ut];exact Z3I a Z0 (L5 a.ok i Z0)<|GB a i Z0
def GA(a:Placed b x){k:Int}(d:1<=k/\k<=4):Zx (Yu x b) k=X6 b x k (I b.g.nodes):=by
 have h:=GB a (I b.g.nodes) (Zhc _) k d;rw[Zj6,List.replicate_zero,ZiE]at h;rw[<-h];rfl
end
end
section
def Q2(x:Rw)(c:Bool)(g:Gr)(i:Nat):Pl:=if V1 x i c=0 then⟨2,(Y3 x c g i).n2⟩else if V1 x i c=1 then⟨1,(Y3 x c g i).n1⟩else⟨0,0⟩
def Jv(x:Rw)(c:Bool)(g:Gr)(i:Nat):Pl:=if(decide (0<V1 x i c)&&c)=xk then(if Wx x i then⟨4,(Y3 x c g i).n4⟩else⟨3,(Y3 x c g i).n3⟩)else⟨0,0⟩
def DJ{x:Rw}{c:Bool}{g:Gr}(d:∀n∈g.nodes,ZL n<=9):∀j,j<=I g.nodes->∀i,i<j->(Y3 x c g j).az[i]?=J (Q2 x c g i)/\(Y3 x c g j).ah[i]?=J (Jv x c g i)
 |0,_,i,f=>Z0
 |j+1,l,i,f=>by
  obtain⟨_,_,h,k⟩:=JQ (x:=x) (cycle:=c) d j Z0;rw[Y3];simp only[X9];by_cases a:i<j;have:=DJ (x:=x) (c:=c) d j Z0 i a;rw[ZhI Z0,ZhI Z0];exact this;have:i=j:=Z0;subst this;rw[Zhy Z0,Zhy Z0,h,k,Zj6];exact⟨rfl,rfl⟩
def nk(s:St8)(k:Int):Nat:=if k=1 then s.n1 else if k=2 then s.n2 else if k=3 then s.n3 else s.n4
section
variable {x:Rw}{c:Bool}
def DR(x:Rw):∀n∈(ZY x.nodes x.E).nodes,ZL n<=9:=λn d=>by
 obtain⟨_,_,a⟩:=qb x.nodes x.E;have:=a n d;unfold ZL;omega
def Rq(x:Rw)(c:Bool):(Ym x c).g=ZY x.nodes x.E:=rfl
def KS{i:Nat}(a:i< (ZY x.nodes x.E).nodes.length):ZF (Ym x c) i=Q2 x c (ZY x.nodes x.E) i:=by
 unfold ZF;show((Y3 x c (ZY x.nodes x.E) (ZY x.nodes x.E).nodes.length).az[i]?).getD _=_;rw[(DJ (DR x) _ (Zhc _) i a).1];rfl
def qA{i:Nat}(a:i< (ZY x.nodes x.E).nodes.length):Y6 (Ym x c) i=Jv x c (ZY x.nodes x.E) i:=by
 unfold Y6;show((Y3 x c (ZY x.nodes x.E) (ZY x.nodes x.E).nodes.length).ah[i]?).getD _=_;rw[(DJ (DR x) _ (Zhc _) i a).2];rfl
def zS:∀i,i<=(ZY x.nodes x.E).nodes.length->∀k:Int,1<=k/\k<=4->I (X6 (Ym x c) x k i)=nk (Y3 x c (ZY x.nodes x.E) i) k
 |0,_,k,f=>by simp[X6,Y3,nk]
 |i+1,p,k,f=>by
  have o:=zS i Z0 k f;rw[U6,ZhY,o];have l:ZR (Ym x c) i=((ZY x.nodes x.E).nodes[i]?).getD default:=rfl;unfold YX;rw[KS (Z0:i< (ZY x.nodes x.E).nodes.length),qA (Z0:i< (ZY x.nodes x.E).nodes.length),l,Y3];generalize ((ZY x.nodes x.E).nodes[i]?).getD default=n;have a:k=1\/k=2\/k=3\/k=4:=Z0;unfold Q2 Jv;generalize Y3 x c (ZY x.nodes x.E) i=s;obtain g|h|⟨j,rfl⟩:=SL x i c;obtain rfl|rfl|rfl|rfl:=a<;>simp[nk,X9,g,Uz];cases c<;>cases d:Wx x i<;>obtain rfl|rfl|rfl|rfl:=a<;>simp[nk,X9,h,d,Uz,Q1]
  cases d:Wx x i<;>obtain rfl|rfl|rfl|rfl:=a<;>simp[nk,X9,j,d,Uz,Q1]
def PM(hx:x.ok):Placed (Ym x c) x:=by
 refine⟨(JR hx c).1,λi a=> ?_,λi a=> ?_,λk g=> ?_⟩;rw[Rq]at a;rw[KS a,qA a];have d:=λk g=>zS (x:=x) (c:=c) i Z0 k g;unfold Q2 Jv;obtain j|h|⟨f,rfl⟩:=SL x i c;right;simp[j,d 2,nk];right;simp[h,d 1,nk];left;refine⟨by simp[f],?_⟩;cases n:Wx x i;exact⟨3,.inl rfl,by simp[f]⟩;exact⟨4,.inr rfl,by simp[f]⟩;rw[Rq]at a;rw[KS a,qA a];have d:=λk g=>zS (x:=x) (c:=c) i Z0 k g;unfold Q2 Jv;obtain j|h|⟨f,rfl⟩:=SL x i c;left;simp[j];cases c;left;simp;right;cases n:Wx x i;simp[h,d 3,nk];simp[h,d 4,nk];right;cases n:Wx x i;simp[f,d 3,nk];simp[f,d 4,nk];rw[Rq,zS _ (Zhc _) k g];have l:k=1\/k=2\/k=3\/k=4:=Z0;obtain rfl|rfl|rfl|rfl:=l<;>rfl
end
end
section
def TN h{k}(d:1<=k/\k<=4):Y5 (Zv h) k=I (Zx h k):=by
 have a:k=1\/k=2\/k=3\/k=4:=Z0;obtain rfl|rfl|rfl|rfl:=a<;>rfl
def Zb7{s p}(h:YE s p=xk):ZS (UD s p).1=(s,p,0):=by
 have a:=YN.1 h;unfold UD;unfold ZS;grind
theorem Z5D h p:V4 (YI h p)=xk:=by
 unfold YI V4;split;rfl;unfold Xz;split;rfl;rename_i a;unfold adr;grind
theorem Z5F b p to tw:V4 (Vl b p to tw)=xk:=by
 unfold Vl;split;rfl;grind [Z5D]
def Sp{gone ptrs}:∀ {l} {i:Nat},(∀j w,l[j]?=J w->(gone=xk->w=0)/\(((i+j:Nat):Int)<ptrs->V4 w=xk))->XP l gone ptrs i=xk
 | [],_,_=>rfl
 |w::l,i,h=>by
  let⟨d,f⟩:=h 0 w rfl;have g:XP l gone ptrs (i+1)=xk:=Sp λj y a=>by
   have:=h (j+1) y a;grind
  rw[XP];grind
theorem PO{b}{p:Pl}{n tw F r old}(d:p.Y=(I F:Nat))(l:ZL n<=9):Stands (F++XR b p n tw++r) old ⟨p.Y,(I n.M:Int)+I n.data,I n.M,xw,0⟩:=by
 have a:YE ((I n.M:Int)+I n.data) (I n.M)=xk:=by
  unfold ZL at l;exact YN.2 Z0
 have f:(F++XR b p n tw++r)[I F]?=J (KR n):=by
  rw[ZhW,Zhy<|Zhc _,Zj6];rfl
 have o:=Zb7 a;refine⟨Zgd,a,?_,?_,KR n,Zgd,?_⟩;grind [Uz,ZL,List.length_append];simp only[d,Zhm];have e:((F++XR b p n tw++r).drop<|I F+1).take ((I n.M:Int)+I n.data).toNat=XX b p p.Y.toNat n.M tw++n.data:=by
  have g:((I n.M:Int)+I n.data).toNat=I (XX b p p.Y.toNat n.M tw++n.data):=by simp[XX];omega
  rw[g,ZhW,ZkY,ZiU Z0,Zk6,Zi8];have h:(XR b p n tw++r).drop 1=(XX b p p.Y.toNat n.M tw++n.data)++r:=rfl;rw[h,ZkQ]
 rw[e];refine Sp λj w f=>⟨Z1,λk=> ?_⟩;simp[XX,Zhz,Zha]at f;grind [Z5F];simp_all[Zhu,Zif,Z2n,KR,trivial]
def ZaH{b}{p o:Pl}{n F r}(a:o.Y=(I F:Nat))(q:ZL n<=9)(l:(adr<|YI b.h p).2=0):Stands (F++VM b p n++r) xk ⟨o.Y,(I n.M:Int)+I n.data,I n.M,xk,(adr<|YI b.h p).1⟩:=by
 have d:YE ((I n.M:Int)+I n.data) (I n.M)=xk:=by
  unfold ZL at q;exact YN.2 Z0
 have f:(F++VM b p n++r)[I F]?=J (YI b.h p):=by
  rw[ZhW,Zhy<|Zhc _,Zj6];rfl
 refine⟨by show 0<=o.Y;omega,d,?_,?_,_,by rw[a];simpa using f,?_⟩;have:=Q1 b p n;unfold ZL at this;simp[a];omega;simp only[a,Zhm];have e:((F++VM b p n++r).drop<|I F+1).take ((I n.M:Int)+I n.data).toNat=List.replicate (ZL n-1) 0:=by
  have g:((I n.M:Int)+I n.data).toNat=I (List.replicate (ZL n-1) (0:Int)):=by simp[ZL];omega
  rw[g,ZhW,ZkY,ZiU Z0,Zk6,Zi8];have k:(VM b p n++r).drop 1=List.replicate _ 0++r:=rfl;rw[k,ZkQ]
 rw[e];refine Sp λj w f=> ?_;have:=(List.mem_replicate.1<|Zhh f).2;subst this;exact⟨Z0,λ_=>rfl⟩;simp only[Zi9];exact⟨trivial,l,trivial⟩
def Xe(b:Bt)(k:Int)(i:Nat):List Ob:=
 if(ZF b i).part=k then [⟨(ZF b i).Y,((ZR b i).M.length:Int)+(ZR b i).data.length,(ZR b i).M.length,xw,0⟩]
 else if(Y6 b i).part=k then(if(ZF b i).part=0 then [⟨(Y6 b i).Y,((ZR b i).M.length:Int)+(ZR b i).data.length,(ZR b i).M.length,xw,0⟩]
  else [⟨(Y6 b i).Y,((ZR b i).M.length:Int)+(ZR b i).data.length,(ZR b i).M.length,xk,(adr<|YI b.h<|ZF b i).1⟩])
 else []
def obs(b:Bt)(k:Int):List Ob:=(List.range<|I b.g.nodes).flatMap<|Xe b k
section
variable {b:Bt}{x:Rw}
def Placed.tu(a:Placed b x)(d:∀n∈b.g.nodes,ZL n<=9){i}(f:i<I b.g.nodes):ZL (ZR b i)<=9:=by
 simp_all[ZR,Zh8,Zhx]
def Placed.len(a:Placed b x){k}(d:1<=k/\k<=4):Y5 (Zv b.h) k=(I (X6 b x k<|I b.g.nodes):Nat):=by
 rw[TN b.h d,a.zero k d];simp
def Placed.da(a:Placed b x){i}(d:i<I b.g.nodes)(k:(ZF b i).part≠0):((ZF b i).part=1\/(ZF b i).part=2)/\(ZF b i).Y=(I (X6 b x (ZF b i).part i):Nat)/\(ZF b i).Y+ZL (ZR b i)<=Y5 (Zv b.h) (ZF b i).part:=by
 obtain⟨h,_⟩|⟨f,j⟩:=a.az i d;simp_all;refine⟨f,j,?_⟩;have:=Dh b x (ZF b i).part d;rw[a.len Z0];have e:YX b x (ZF b i).part i=XR b (ZF b i) (ZR b i) (IntKind.i64.wrap<|x.bj+i):=by unfold YX;rw[Zhi rfl]
 grind [Uz]
def Placed.dn(a:Placed b x){i}(d:i<I b.g.nodes)(o:(Y6 b i).part≠0):((Y6 b i).part=3\/(Y6 b i).part=4)/\(Y6 b i).Y=(I (X6 b x (Y6 b i).part i):Nat)/\(ZF b i).part≠2/\(Y6 b i).Y+ZL (ZR b i)<=Y5 (Zv b.h) (Y6 b i).part:=by
 obtain h|⟨j,k,l⟩:=a.ah i d;simp_all;refine⟨j,k,l,?_⟩;have:=Dh b x (Y6 b i).part d;rw[a.len Z0];have n:(ZF b i).part=0\/(ZF b i).part=1:=by
  by_cases f:(ZF b i).part=0;omega;have:=(a.da d f).1;omega
 have e:I (YX b x (Y6 b i).part i)=ZL (ZR b i):=by
  unfold YX;rw[Zhg Z0,Zhi rfl];split;grind [Uz];exact Q1 _ _ _
 omega
def Placed.ga(a:Placed b x)(d:ZD (Zv b.h)=xk){i}(f:i<I b.g.nodes)(j:(ZF b i).part≠0):YI b.h (ZF b i)=ZO (Zv b.h) (ZF b i).part (ZF b i).Y:=by
 let⟨k,l,n⟩:=a.da f j;have o:1<=ZL (ZR b i):=by grind [ZL]
 unfold YI;rw[SD d Z0 ⟨Z0,Z0⟩];have:=WK d (ZF b i).part;unfold Xz ZO;grind
def Placed.rr(a:Placed b x)(d:ZD (Zv b.h)=xk){i}(f:i<I b.g.nodes)(j:(Y6 b i).part≠0):YI b.h (Y6 b i)=ZO (Zv b.h) (Y6 b i).part (Y6 b i).Y:=by
 let⟨k,l,_,n⟩:=a.dn f j;have o:1<=ZL (ZR b i):=by grind [ZL]
 unfold YI;rw[SD d Z0 ⟨Z0,Z0⟩];have:=WK d (Y6 b i).part;unfold Xz ZO;grind
def MD(a:Placed b x)(z:ZD (Zv b.h)=xk)(C:∀n∈b.g.nodes,ZL n<=9){k}(F:1<=k/\k<=4):∀m i,i+m=I b.g.nodes->Tiles (X6 b x k<|I b.g.nodes) (decide (2<k)) (I<|X6 b x k i) ((List.range' i m).flatMap<|Xe b k)
 |0,i,D=>by
  have:i=I b.g.nodes:=Z0;subst this;exact Zhc _
 |m+1,i,D=>by
  have t:=MD a z C F m (i+1) Z0;have d:i<I b.g.nodes:=Z0;have w:=a.tu C d;let⟨r,A⟩:=Kq b x k (Z0:i+1<=I b.g.nodes);rw[List.range'_succ,ZkS];have B:=U6 b x k i;by_cases f:(ZF b i).part=k;have u:YX b x k i=XR b (ZF b i) (ZR b i) (IntKind.i64.wrap<|x.bj+i):=by unfold YX;rw[Zhi f]
  have q:Xe b k i=[⟨(ZF b i).Y,((ZR b i).M.length:Int)+(ZR b i).data.length,(ZR b i).M.length,xw,0⟩]:=by unfold Xe;rw[Zhi f]
  let⟨_,j,_⟩:=a.da d Z0;rw[f]at j;rw[q];refine⟨j,?_,?_⟩;grind [PO];rw[B,u,ZhY,Uz]at t;have:(((ZR b i).M.length:Int)+(ZR b i).data.length).toNat=ZL (ZR b i) -1:=by grind [ZL]
  simp[this];rw[show I (X6 b x k i)+1+(ZL _-1)=I (X6 b x k i)+ZL (ZR b i)by grind [ZL]];exact t;by_cases l:(Y6 b i).part=k;let⟨G,j,H,K⟩:=a.dn d Z0;have y:2<k:=Z0;rw[l]at j;have p:I (X6 b x k<|i+1)=I (X6 b x k i)+1+(((ZR b i).M.length:Int)+(ZR b i).data.length).toNat:=by
   have e:I (YX b x k i)=ZL (ZR b i):=by
    unfold YX;rw[Zhg f,Zhi l];split;grind [Uz];exact Q1 _ _ _
   rw[B,ZhY,e];unfold ZL;omega
  rw[p]at t;by_cases o:(ZF b i).part=0;have u:YX b x k i=XR b (Y6 b i) (ZR b i) 0:=by unfold YX;rw[Zhg f,Zhi l,Zhi o]
  have q:Xe b k i=[⟨(Y6 b i).Y,((ZR b i).M.length:Int)+(ZR b i).data.length,(ZR b i).M.length,xw,0⟩]:=by unfold Xe;rw[Zhg f,Zhi l,Zhi o]
  rw[q];refine⟨j,?_,t⟩;grind [PO];have u:YX b x k i=VM b (ZF b i) (ZR b i):=by unfold YX;rw[Zhg f,Zhi l,Zhg o]
  have q:Xe b k i=[⟨(Y6 b i).Y,((ZR b i).M.length:Int)+(ZR b i).data.length,(ZR b i).M.length,xk,(adr<|YI b.h<|ZF b i).1⟩]:=by unfold Xe;rw[Zhg f,Zhi l,Zhg o]
  rw[q];refine⟨j,?_,t⟩;rw[A,B,u,ZjD y];refine ZaH j w ?_;let⟨L,M,_⟩:=a.da d o;rw[a.ga z d o,V9 z Z0];simp_all[YX,Zhg,Xe,Zi8,ZiE]
def Z7b(a:Placed b x)(j:ZD (Zv b.h)=xk)(f:∀n∈b.g.nodes,ZL n<=9){k}(d:1<=k/\k<=4):Tiles (Zx (Yu x b) k) (decide (2<k)) 0<|obs b k:=by
 rw[GA a d];have:=MD a j f d (I b.g.nodes) 0 Z0;unfold obs;rw[List.range_eq_range'];exact this
def Jj{k o}:o∈obs b k↔ ∃i,i<I b.g.nodes/\o∈Xe b k i:=by
 grind [obs]
end
end
section
def JP{gone:Bool}{ptrs:Int}:∀ {l:Z6} {i:Nat},XP l gone ptrs i=xk->∀(j:Nat) (w:Int),l[j]?=J w->(gone=xk->w=0)/\(((i+j:Nat):Int)<ptrs->V4 w=xk)
 | [],_,_,j,w,a=>by simp at a
 |y::l,i,d,j,w,a=>by
  simp only[XP,Zhb]at d;cases j with
  |zero=>
   simp at a;subst a;obtain⟨⟨f,g⟩,_⟩:=d;refine⟨λh=> ?_,λk=> ?_⟩;rw[h]at f;simpa using f;simpa[show(i:Int)<ptrs by omega]using g
  |succ j=>
   have:=JP d.2 j w ZgS;rw[show i+1+j=i+(j+1)by omega]at this;exact this
def Stands.congr{ws a:Z6}{old:Bool}{o:Ob}(s:Stands ws old o)(n:I a=I ws)(k:a[o.Y.toNat]?=ws[o.Y.toNat]?)
  (g:∀j:Nat,(j:Int)<o.size->a[o.Y.toNat+1+j]?=ws[o.Y.toNat+1+j]? \/(o.gone=xw/\o.M<=j)):Stands a old o:=by
 refine⟨s.kx,s.shape,by rw[n];exact s.an,Sp λj w f=> ?_,by rw[k];exact s.word⟩;have d:j<o.size.toNat:=by
  have:=(Zh9.1 f).1;simp at this;omega
 rw[ZhO d,ZhF]at f;obtain g|⟨l,p⟩:=g j Z0;rw[g]at f;refine JP s.gm j w ?_;rw[ZhO d,ZhF];exact f;exact⟨λh=>(by rw[l]at h;cases h),λh=>Z0⟩
def Tiles.congr{ws d:Z6}{old:Bool}:∀ {a:Nat} {l:Zi},Tiles ws old a l->I d=I ws->(∀o∈l,Stands d old o)->Tiles d old a l
 |a,[],h,f,_=>by show I d<=a;rw[f];exact h
 |a,o::l,h,f,g=>⟨h.1,g o<|.head _,Tiles.congr h.2.2 f λx j=>g x<|.tail _ j⟩
section
variable {h g:Hp}{p:Pts}
def jV(a:Zv g=Zv h){w i j:Int}:Gos g p w i j↔Gos h p w i j:=by
 unfold Gos;rw[a]
def Tiles.place{ws:Z6}{old:Bool}:∀ {a:Nat} {l:Zi},Tiles ws old a l->∀ {i:Nat} {o:Ob},l[i]?=J o->o.Y=((a+UJ (l.take i):Nat):Int)
 |_,[],_,i,o,d=>by simp at d
 |a,x::l,f,0,o,d=>by simp at d;subst d;rw[f.1];simp[UJ]
 |a,x::l,f,i+1,o,d=>by
  have:=f.2.2.place (i:=i) (o:=o) Zgp;rw[this];simp[UJ];omega
def ZaV{l:Zi}{i:Nat}{o:Ob}(a:l[i]?=J o):UJ (l.take<|i+1)=UJ (l.take i)+(1+o.size.toNat):=by
 unfold UJ;rw[Zi3,a,Zir,Zld];simp
end
end
section
def Ep{ws a}:∀ {n j},j<n->a+n<=I ws->(zr ws a n)[a+j]?=J 0
 |0,_,h,_=>Z0
 |n+1,j,h,d=>by
  rw[zr];by_cases e:j=n;subst e;rw[ZiG (by rw[zw];omega)];rw[Zin Z0];exact Ep Z0 Z0
def Stands.app{ws r old o}(s:Stands ws old o):Stands (ws++r) old o:=by
 have k:=YN.1 s.shape;have g:=s.an;have h:=s.kx;have f:(ws++r)[o.Y.toNat]?=ws[o.Y.toNat]? :=Zgc;refine⟨s.kx,s.shape,Zge,Sp λj w d=> ?_,by rw[f];exact s.word⟩;have a:j<o.size.toNat:=by
  have:=(Zh9.1 d).1;simp at this;omega
 rw[ZhO a,ZhF,ZhI Z0]at d;refine JP s.gm j w ?_;simp_all
def Tiles.append{ws r old}:∀ {a} {l d:Zi},Tiles ws old a l->a<=I ws->Tiles (ws++r) old (I ws) d->Tiles (ws++r) old a (l++d)
 |a,[],d,h,g,f=>by
  have:I ws<=a:=h;have:a=I ws:=Z0;subst this;exact f
 |a,o::l,d,h,g,f=>by
  have k:=YN.1 h.2.1.shape;have j:=h.2.1.an;have e:=h.1;exact⟨h.1,h.2.1.app,Tiles.append h.2.2 Z0 f⟩
theorem Tiles.map{ws d old f}(g:∀o,(f o).Y=o.Y/\(f o).size=o.size)(j:I d=I ws):∀ {a} {l:Zi},Tiles ws old a l->(∀o∈l,Stands d old<|f o)->Tiles d old a (l.map f)
 |a,[],h,_=>by show I d<=a;rw[j];exact h
 |a,o::l,h,k=>⟨by rw[(g o).1];exact h.1,k o<|.head _,by rw[(g o).2];exact Tiles.map g j h.2.2 λx n=>k x<|.tail _ n⟩
def VL(a t:Int)(q:Ob):Ob:=if q.Y=a then {q with gone:=xk,target:=t}else q
theorem KN a t q:(VL a t q).Y=q.Y/\(VL a t q).size=q.size/\(VL a t q).M=q.M:=by
 unfold VL;grind
theorem UY{a t q}(h:q.Y≠a):VL a t q=q:=Zhg h
theorem Ux{a t q}(h:q.Y=a):VL a t q= {q with gone:=xk,target:=t}:=Zhi h
def Pts.mv(p:Pts)(k:Int)(o:Ob)(L:Nat)(t:Int):Pts:=⟨p.H++[⟨L,o.size,o.M,xw,0⟩],p.ae,if k=3 then p.ah.map (VL o.Y t)else p.ah,if k=3 then p.aj else p.aj.map<|VL o.Y t⟩
section
variable {h:Hp}{p:Pts}
def Lh{k}(a:3<=k/\k<=4)o L t:(p.mv k o L t).at 1=p.H++[⟨L,o.size,o.M,xw,0⟩]/\(p.mv k o L t).at 2=p.ae/\(p.mv k o L t).at k=(p.at k).map (VL o.Y t)/\(p.mv k o L t).at (7-k)=p.at (7-k):=by
 have:k=3\/k=4:=Z0;obtain rfl|rfl:=this<;>exact⟨rfl,rfl,rfl,rfl⟩
def Z6K{k}(d:3<=k/\k<=4){o L t j}(u:1<=j/\j<=4){q}(w:q∈p.at j):∃a∈(p.mv k o L t).at j,a.Y=q.Y/\a.size=q.size/\a.M=q.M/\(a.gone=xw->a=q)/\(j<3->a=q):=by
 let⟨h,l,n,r⟩:=Lh (p:=p) d o L t;by_cases f:j=1;subst f;exact⟨q,Zgd,rfl,rfl,rfl,Z1,Z1⟩;by_cases g:j=2;subst g;exact⟨q,Zgd,rfl,rfl,rfl,Z1,Z1⟩;grind [VL,List.mem_map_of_mem,KN,Ux,UY]
def Z6J{g k}(f:3<=k/\k<=4){o L t}(r:∀j b,ZO (Zv g) j b=ZO (Zv h) j b){w i j}(x:1<=i/\i<=4)(y:1<=j/\j<=4)(d:Gos h p w i j):Gos g (p.mv k o L t) w i j:=by
 obtain rfl|⟨m,q,l,n,rfl⟩:=d;exact .inl rfl;let⟨u,a,e,_⟩:=Z6K (p:=p) f (o:=o) (L:=L) (t:=t) (j:=m) Z0 n;exact .inr ⟨m,u,l,a,by rw[r,e]⟩
def Z0s{l o t}(d:l.Pairwise λx y=>x.Y<y.Y)(a:o∈l)(h:o.gone=xw):Yx (l.map<|VL o.Y t)+(1+o.size.toNat)=Yx l:=by
 induction l with
 |nil=>simp at a
 |cons x l g=>
  rw[ZkJ]at d;simp only[Yx,ZhN]at g⊢;obtain rfl|a:=Zhs.1 a
  .have:l.map (VL o.Y t)=l:=by
    conv=>rhs;rw[<-List.map_id l]
    refine Ziv λy f=>UY ?_;have:=d.1 y f;omega
   rw[Ux rfl];grind [WH]
  grind [UY]
def Body.move(r:Body h p)(b6:h.Z<=I h.H){k}(G:3<=k/\k<=4){o}(P:o∈p.at k)(hg:o.gone=xw){a n:Nat}(ea:o.Y=a)(N:o.size=n):
  Body (Yf h k a<|n+1) (p.mv k o (I h.H)<|ZC (Zv h) 1+I h.H):=by
 obtain⟨B,D,m,a7,a9,em,K,b3,b2⟩:=r.toTld.ob (k:=k) Z0 P;have:B=a:=Z0;subst this;have:D=n:=Z0;subst this;obtain⟨_,hm⟩:=r.ej G P hg ea N;obtain⟨m1,m2,m3,m4,m5,m6,m7,m8,m9,b8⟩:=Jk h G B<|D+1;have Z:=La G (g:=h) K;have mr:=M5 r.be G K hm;have hr:=Qr G K;have hw:∀ {j:Int} {b:Nat},3<=j/\j<=4->(j≠k\/b<B\/B+(D+1)<=b)->(Zx (Yf h k B<|D+1) j)[b]?=(Zx h j)[b]? :=λC hb=>Lb G Z0 C hb;have O:∀ {j:Int},3<=j/\j<=4->I (Zx (Yf h k B<|D+1) j)=I (Zx h j):=λC=>BX G C;have R:ZC (Zv<|Yf h k B<|D+1) 1=ZC (Zv h) 1:=by rw[Z];rfl
 have X:∀i,i<D+1->(((Zx h k).take<|B+(D+1)).drop B)[i]?=(Zx h k)[B+i]? :=Zgd;have a4:I (((Zx h k).take<|B+(D+1)).drop B)=D+1:=Zge;obtain⟨e1,e2,e3,e4⟩:=Lh (p:=p) G o (I h.H)<|ZC (Zv h) 1+I h.H;have H:=((r.am k Z0).bd o P).1;obtain⟨u,hu,hc⟩:=H.word;rw[Zhg (by simp[hg])]at hc;rw[ea,Zhm]at hu;generalize b1:Yf h k B (D+1)=g at*;generalize a6:((Zx h k).take<|B+(D+1)).drop B=ws at*;have a1:∀q∈p.at k,q.Y≠o.Y->∀i:Nat,(i:Int)<=q.size->q.Y.toNat+i<B\/B+(D+1)<=q.Y.toNat+i:=by
  intro q d S i A;obtain⟨b,l,_,eb,el,_⟩:=r.toTld.ob (k:=k) Z0 d;rcases(r.am k Z0).apart q d o P with e|e|e;simp_all;left;omega;omega
 have F:∀q∈p.at k,q.Y≠o.Y->∀i:Nat,(i:Int)<=q.size->(Zx g k)[q.Y.toNat+i]?=(Zx h k)[q.Y.toNat+i]? :=λq d S i A=>hw G<|.inr<|a1 q d S i A;have a0:∀b,(Zx g<|7-k)[b]?=(Zx h<|7-k)[b]? :=λb=>hw Z0 Z0;have T:Stands (h.H++ws) xw ⟨I h.H,o.size,o.M,xw,0⟩:=by
  refine⟨Z1,H.shape,Zge,Sp λj w C=>⟨Z1,λW=> ?_⟩,u,?_,?_⟩;have L:j<D:=by
   have:=(Zh9.1 C).1;simp[N]at this;omega
  simp only[N,Zhm]at C;rw[ZhO L,ZhF,Zhy Z0,show I h.H+1+j-I h.H=1+j by omega,X _ Z0]at C;refine(JP H.gm j w ?_).2 W;rw[ea,N,Zhm,Zhm,ZhO L,ZhF,<-C,Zik];simp only[Zhm];grind;grind
 have a5:=WK r.be 1;refine⟨⟨mr,λj C=> ?_⟩,λj C q d z=> ?_,λj C q d z i A w f=> ?_,?_⟩;by_cases j1:j=1;subst j1;rw[e1];simp only[WD,m1];exact(r.am 1 Z0).append Z0 ⟨rfl,T,by show I (h.H++ws)<=_;simp[N,a4];omega⟩;by_cases j2:j=2;subst j2;rw[e2];simp only[Rf,m2];exact r.am 2 Z0;by_cases Y:j=k;subst Y;rw[e3];refine(r.am j Z0).map (λq=>⟨(KN _ _ q).1,(KN _ _ q).2.1⟩) (O G) λq d=> ?_;by_cases e:q.Y=o.Y;have:q=o:=r.toTld.db Z0 P d e;subst this;rw[Ux rfl];refine⟨H.kx,H.shape,Zgc,Sp λi w A=> ?_,ZO (Zv h) 1<|I h.H,?_,?_⟩;have L:i<D:=by
  have:=(Zh9.1 A).1;simp[N]at this;omega
 simp only[ea,N,Zhm]at A;rw[ZhO L,ZhF,m3,Zin Z0,Zik,Ep Z0 K]at A;cases A;exact⟨Z0,λ_=>rfl⟩;grind [Int.toNat_natCast,List.getElem?_set_self,zw];simp only[Zi9];rw[V9 r.be Z0];grind;rw[UY e];refine((r.am j Z0).bd q d).1.congr (O G) (by simpa using F q d e 0 (by have:=YN.1 ((r.am j Z0).bd q d).1.shape;omega)) λi A=>.inl ?_;rw[Zik];exact F q d e (1+i) Z0;have:j=7-k:=Z0;subst this;rw[e4,m4];exact r.am (7-k) Z0;by_cases Y:j=k;subst Y;rw[e3,Zhq]at d;obtain⟨x,Q,rfl⟩:=d;by_cases e:x.Y=o.Y;have:x=o:=r.toTld.db Z0 P Q e;subst this;rw[Ux rfl];exact⟨_,ZjL _<|.head _,by rw[R],rfl,rfl⟩;rw[UY e]at z⊢;obtain⟨y,hy,y1,y2,y3⟩:=r.gone j C x Q z;exact⟨y,Zij _ hy,Z0,y2,y3⟩;have:j=7-k:=Z0;subst this;rw[e4]at d;obtain⟨y,hy,y1,y2,y3⟩:=r.gone _ C q d z;exact⟨y,Zij _ hy,Z0,y2,y3⟩;have b0:∀ {w i j:Int},1<=i/\i<=4->1<=j/\j<=4->Gos h p w i j->Gos g (p.mv k o (I h.H)<|ZC (Zv h) 1+I h.H) w i j:=λA C=>Z6J G hr A C;have M:∀ {j:Int} {i:Nat} {w:Int},Xw h p j i w->Xw g (p.mv k o (I h.H)<|ZC (Zv h) 1+I h.H) j i w:=λ{j i w} W=>by
  unfold Xw at W⊢;rw[m6];by_cases c1:2<j;grind;rw[Zhg c1]at W⊢;by_cases c2:j=1/\h.Z<=i;grind;rw[Zhg c2]at W⊢;grind
 by_cases j1:j=1;subst j1;rw[e1]at d;obtain d|d:=ZhC.1 d;obtain⟨b,l,l',eb,el,a8,a2,_⟩:=r.toTld.ob (k:=1) Z0 d;simp only[WD]at a2 f;rw[m1,ZhI Z0]at f;exact M<|r.ptr 1 Z0 q d z i A w f;simp at d;subst d;simp only at A f⊢;simp only[Zhm,WD,m1]at f⊢;rw[Zhy Z0,show I h.H+1+i-I h.H=1+i by omega,X _ Z0]at f;have:=r.ptr k Z0 o P hg i A w (by grind [Int.toNat_natCast,Nat.add_assoc]);unfold Xw at this⊢;rw[Zhi Z0]at this;rw[Zhg Z0,Zhi ⟨rfl,Z0⟩];grind;by_cases j2:j=2;subst j2;rw[e2]at d;simp only[Rf,m2]at f;exact M<|r.ptr 2 Z0 q d z i A w f;by_cases Y:j=k;subst Y;rw[e3,Zhq]at d;obtain⟨x,Q,rfl⟩:=d;by_cases e:x.Y=o.Y;grind [Ux];rw[UY e]at z A f⊢;have b4:=(YN.1 ((r.am j Z0).bd x Q).1.shape).2.2.2;rw[Zik,F x Q e (1+i) Z0,<-Zik]at f;exact M<|r.ptr j C x Q z i A w f;have:j=7-k:=Z0;subst this;rw[e4]at d;rw[m4]at f;exact M<|r.ptr _ C q d z i A w f;have b5:=r.room;have b7:X4 (p.mv k o (I h.H)<|ZC (Zv h) 1+I h.H)+(1+D)=X4 p:=by
  have h1:=(r.am k Z0).dt;have:=Z0s (t:=ZC (Zv h) 1+I h.H) h1 P hg;rw[N,Zhm]at this;unfold X4;have a3:k=3\/k=4:=Z0;obtain rfl|rfl:=a3;simp only[Pts.oz]at this;simp only[Pts.mv,Zi9];omega;simp only[Pts.pd]at this;simp only[Pts.mv,show ¬(4:Int)=3 by omega,Zif];omega
 grind
end
end
section
def RC(h:Hp)(p:Pts):Prop:=∀o∈p.H,UK p (ZC (Zv h) 1+o.Y)=1
section
variable {h g:Hp}{p q:Pts}
def ZaY{l o t b}(d:l.Pairwise λx y=>x.Y<y.Y)(a:o∈l)(g:o.gone=xw):Xc (l.map<|VL o.Y t) b=Xc l b+if t=b then 1 else 0:=by
 induction l with
 |nil=>simp at a
 |cons x l h=>
  rw[ZkJ]at d;have e:∀y r,Xc (y::r) b=(if y.gone=xk/\y.target=b then 1 else 0)+Xc r b:=λy r=>by
   unfold Xc;grind
  rw[ZhN,e];obtain rfl|a:=Zhs.1 a
  .have:l.map (VL o.Y t)=l:=by
    conv=>rhs;rw[<-List.map_id l]
    refine Ziv λy f=>UY ?_;have:=d.1 y f;omega
   rw[Ux rfl];grind
  grind [UY]
def ZaZ(r:Body h p){b:Int}(n:I h.H<=b):UK p (ZC (Zv h) 1+b)=0:=by
 have key:∀k,3<=k/\k<=4->Xc (p.at k) (ZC (Zv h) 1+b)=0:=λk d=>by
  unfold Xc;rw[ZiQ,Zkb];intro o f a;simp[ZhG]at a;let⟨y,g,e,_⟩:=r.gone k d o f a.1;have:=r.toTld.nx g;omega
 have j:=key 3 Z0;have l:=key 4 Z0;simp_all[Pts.oz,Pts.pd,UK]
def ZaX(r:Body h p){k}(j:3<=k/\k<=4){o}(g:o∈p.at k)(f:o.gone=xw){L t b}:UK (p.mv k o L t) b=UK p b+if t=b then 1 else 0:=by
 have d:=ZaY (t:=t) (b:=b) (r.am k Z0).dt g f;unfold UK;have a:k=3\/k=4:=Z0;obtain rfl|rfl:=a;simp[Pts.oz]at d;simp[Pts.mv];omega;simp[Pts.pd]at d;simp[Pts.mv,Zif];omega
structure Ext (h:Hp) (p:Pts) (g:Hp) (q:Pts):Prop where
 H:∃ws,g.H=h.H++ws
 ae:g.ae=h.ae
 base:g.base=h.base
 cap:g.cap=h.cap
 wy:g.to=h.to
 aa:g.aa=h.aa
 Z:g.Z=h.Z
 E:g.E=h.E
 oldL:I g.ah=I h.ah
 wz:I g.aj=I h.aj
 ld:∃r,q.H=p.H++r
 ny:q.ae=p.ae
 xa:∀k:Int,3<=k/\k<=4->(q.at k).map (λo=>(o.Y,o.size,o.M))=(p.at k).map (λo=>(o.Y,o.size,o.M))
 gone:∀k:Int,3<=k/\k<=4->∀(i:Nat) (o o':Ob),(p.at k)[i]?=J o->(q.at k)[i]?=J o'->(o.gone=xk->o'=o)/\(o'.gone=xw->o'=o/\∀j:Nat,(j:Int)<=o.size->(Zx g k)[o.Y.toNat+j]?=(Zx h k)[o.Y.toNat+j]?)
 room:(I g.H:Int)+X4 q=I h.H+X4 p
def Ext.refl h p:Ext h p h p:=
 ⟨⟨[],Z1⟩,rfl,rfl,rfl,rfl,rfl,rfl,rfl,rfl,rfl,⟨[],Z1⟩,rfl,Z1,Zgd,rfl⟩
def Ext.fst(e:Ext h p g q)k a(d:k=1\/k=3\/k=4\/k=2):ZO (Zv g) k a=ZO (Zv h) k a:=by
 unfold ZO ZC Zv;simp[e.base,e.cap,e.wy,e.ae,e.wz]
def Ext.mem(e:Ext h p g q){j}(l:1<=j/\j<=4){o}(f:o∈p.at j):∃a∈q.at j,a.Y=o.Y/\a.size=o.size/\a.M=o.M:=by
 have d:j=1\/j=2\/j=3\/j=4:=Z0;obtain rfl|rfl|k:=d;let⟨r,n⟩:=e.ld;exact⟨o,Zgd,rfl,rfl,rfl⟩;exact⟨o,by show o∈q.ae;rw[e.ny];exact f,rfl,rfl,rfl⟩;have:=e.xa j Z0;grind [List.mem_map_of_mem]
def Ext.ss(e:Ext h p g q){w i j}(t:1<=i/\i<=4)(u:1<=j/\j<=4)(l:Gos h p w i j):Gos g q w i j:=by
 obtain rfl|⟨m,o,f,n,rfl⟩:=l;exact .inl rfl;have a:1<=m/\m<=4:=by obtain rfl|rfl:=f<;>assumption
 let⟨r,d,k,_⟩:=e.mem a n;exact .inr ⟨m,r,f,d,by rw[e.fst _ _ Z0,k]⟩
theorem Body.ext(r:Body h p)(S:h.Z<=I h.H){k}(f:3<=k/\k<=4){o}(q:o∈p.at k)(P:o.gone=xw){a n:Nat}(ea:o.Y=a)(en:o.size=n):
  Ext h p (Yf h k a<|n+1) (p.mv k o (I h.H)<|ZC (Zv h) 1+I h.H):=by
 let⟨u,B,m,N,O,em,y,R,Q⟩:=r.toTld.ob (k:=k) Z0 q;have:u=a:=Z0;subst this;have:B=n:=Z0;subst this;let⟨W,X,m3,m4,Y,Z,m7,m8,m9,A⟩:=Jk h f u<|B+1;let⟨K,L,M,e4⟩:=Lh (p:=p) f o (I h.H)<|ZC (Zv h) 1+I h.H;have T:(Yf h k u<|B+1).aj.length=I h.aj:=BX (j:=4) f Z0;refine⟨⟨_,W⟩,X,m9,m8,A,m7,Z,Y,BX (j:=3) f Z0,T,⟨_,K⟩,L,λj D=> ?_,λj D i x x' g w=> ?_,?_⟩;by_cases H:j=k;simp_all[Zjw,Ziv,KN,ZC,Zv,Function.comp];have:j=7-k:=Z0;simp_all;by_cases H:j=k;subst H;rw[M,Zhz,g]at w;simp at w;subst w;have d:=Zhh g;by_cases e:x.Y=o.Y;have:=r.toTld.db Z0 q d e;subst this;rw[Ux rfl];exact⟨Zgd,Z1⟩;rw[UY e];refine⟨Z1,λ_=>⟨rfl,λi hi=>Lb f Z0 D<|.inr ?_⟩⟩;let⟨b,l,_,eb,el,_⟩:=r.toTld.ob (k:=j) Z0 d;rcases(r.am j Z0).apart x d o q with C|C|C;simp_all;left;omega;omega;have:j=7-k:=Z0;simp_all;have g:=(r.am k Z0).dt;have G:=Z0s (t:=ZC (Zv h) 1+I h.H) g q P;have F:=M3 f y;unfold X4;have z:k=3\/k=4:=Z0;obtain rfl|rfl:=z;simp[Pts.oz]at G;simp[Pts.mv,Zi9];omega;simp[Pts.pd]at G;simp[Pts.mv,show ¬(4:Int)=3 by omega,Zif];omega
def Z7m(r:Body h p)(f:RC h p)(g:h.Z<=I h.H){k}(l:3<=k/\k<=4){o}(q:o∈p.at k)(j:o.gone=xw){a n:Nat}(t:o.Y=a)(u:o.size=n):
  RC (Yf h k a<|n+1) (p.mv k o (I h.H)<|ZC (Zv h) 1+I h.H):=by
 have w:ZC (Zv<|Yf h k a<|n+1) 1=ZC (Zv h) 1:=by
  have:=(r.ext g l q j t u).fst 1 0 Z0;unfold ZO at this;omega
 intro x d;rw[ZaX r l q j,w];obtain d|d:=ZhC.1 d;have:=r.toTld.nx d;rw[f x d,Zhg Z0];simp_all[ZaZ,Int.le_refl]
def Res(g:Hp)(q:Pts)(w v:Int):Prop:=(w=0/\v=0)\/∃k o,(k=3\/k=4)/\o∈q.at k/\w=ZO (Zv g) k o.Y/\o.gone=xk/\v=2*o.target+1
structure FwdTo (h:Hp) (p:Pts) (w v:Int) (g:Hp) (q:Pts):Prop where
 fwd:fwd h w=(v,g,0)
 body:Body g q
 lf:RC h p->RC g q
 ext:Ext h p g q
 ww:Gos g q v 1 2
 zero:v=0↔w=0
 fq:(Gos h p w 1 2/\v=w/\g=h/\q=p)\/Res g q w v
 how:(g=h/\q=p)\/∃(k:Int) (o:Ob) (a n:Nat),(3<=k/\k<=4)/\o∈p.at k/\o.gone=xw/\o.Y=a/\o.size=n/\g=Yf h k a (n+1)/\q=p.mv k o (I h.H) (ZC (Zv h) 1+I h.H)/\v=ZO (Zv h) 1 (I h.H)
def Body.iw(r:Body h p)(l:h.Z<=I h.H){w}(L:Gos h p w 1 2\/Gos h p w 3 4):∃v g q,FwdTo h p w v g q:=by
 by_cases C:w=0;subst C;exact⟨0,h,p,yr r.be,r,id,.refl h p,.inl rfl,Z1,.inr<|.inl ⟨rfl,rfl⟩,Z1⟩;have B:∃k o,1<=k/\k<=4/\o∈p.at k/\w=ZO (Zv h) k o.Y:=by
  obtain(F|⟨k,o,f,d,e⟩)|(F|⟨k,o,f,d,e⟩):=L;omega;grind;omega;grind
 obtain⟨k,o,k1,N,d,rfl⟩:=B;by_cases G:k<=2;exact⟨_,h,p,r.ib ⟨k1,G⟩ d,r,id,.refl h p,.inr ⟨k,o,Z0,d,rfl⟩,Zj8,.inl ⟨.inr ⟨k,o,Z0,d,rfl⟩,rfl,rfl,rfl⟩,Z1⟩;have f:3<=k/\k<=4:=Z0;cases j:o.gone;let⟨a,n,m,t,u,em,H,_⟩:=r.toTld.ob ⟨k1,N⟩ d;let⟨D,_⟩:=r.ej f d j t u;have e:=r.ext l f d j t u;have b:=r.move l f d j t u;have x:(⟨I h.H,o.size,o.M,xw,0⟩:Ob)∈(p.mv k o (I h.H)<|ZC (Zv h) 1+I h.H).H:=ZjL _<|.head _;have A:ZO _ 1 (I h.H)=ZO _ 1 (I h.H):=(e.fst 1 _ Z0).symm;exact⟨_,_,_,D,b,λz=>Z7m r z l f d j t u,e,.inr ⟨1,_,.inl rfl,x,A⟩,iff_of_false (LP r.be Z0) C,.inr<|.inr ⟨k,_,Z0,by rw[(Lh f o _ _).2.2.1];exact Zil d,by rw[e.fst _ _ Z0,(KN _ _ _).1],by rw[Ux rfl],by rw[Ux rfl];rfl⟩,.inr ⟨k,o,a,n,f,d,j,t,u,rfl,rfl,rfl⟩⟩;let⟨y,M,e,_⟩:=r.gone k f o d j;have K:2*o.target+1=ZO (Zv h) 1 y.Y:=by unfold ZO;omega
 refine⟨_,h,p,r.fw f d j,r,id,.refl h p,.inr ⟨1,y,.inl rfl,M,K⟩,?_,.inr<|.inr ⟨k,o,Z0,d,rfl,j,rfl⟩,Z1⟩;omega
end
end
end Vm
end
