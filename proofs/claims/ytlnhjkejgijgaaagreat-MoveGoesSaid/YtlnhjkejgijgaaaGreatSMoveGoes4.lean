import Derived.LoopNIn
import Derived.LoopIn
import Derived.Shelf.RegionOpen
import Derived.RecoverIn
import Derived.Maps.OwnIn
import Derived.Test.YtlnhjkejgijgaaaGreatSMoveGoes3
set_option linter.unusedSimpArgs false
set_option linter.unusedVariables false
set_option linter.defProp false
open Option renaming some→J,none→U
open Bool renaming true→xk,false→xw
open Go renaming undef→xy
open List renaming length→I
open Array renaming size→xz
open Go.World renaming heap→xj
open List renaming length→xq
open Array renaming size→xz
open Go.World renaming heap→xj
set_option maxHeartbeats 8000000
set_option maxRecDepth 100000
theorem Z5U{p:Prop}(h:p:=by rw[cell_of_row _ _ _ _ _ _ d.out.2.1];rfl):p:=h
theorem Z5P{p:Prop}(h:p:=by have:=d.out.size;simp at this;omega):p:=h
theorem Z5n{p:Prop}(h:p:=by have:=heap_alloc_new (w.alloc<|.cells #[.int .i64 0,.int .i64 0,.int .i64 0,.bool xw,.int .u64 0] 71)<|.cells #[.int .i64 a,.int .i64 0,.int .i64 0,.bool xw,.int .u64 0] 71;simp_all):p:=h
theorem Z5t{p:Prop}(h:p:=by rw[cell_of_row _ _ _ _ _ _ k];rfl):p:=h
theorem Z5B{p:Prop}(h:p:=by rw[cell_of_row _ _ _ _ _ _ q];rfl):p:=h
theorem Z5A{p:Prop}(h:p:=by rw[cell_of_row _ _ _ _ _ _ u];rfl):p:=h
theorem Z5I{p:Prop}(h:p:=by rw[cell_of_row _ _ _ _ _ _ j];rfl):p:=h
theorem Z5r{p:Prop}(h:p:=by rw[ZA _ (by omega) (by omega)];omega):p:=h
theorem Z5H{p:Prop}(h:p:=by rw[cell_of_row _ _ _ _ _ _ F];rfl):p:=h
theorem Z5s{p:Prop}(h:p:=by rw[cell_of_row _ _ _ _ _ _ d];rfl):p:=h
def Z7d:=@eq_false
def Z7v:=@List.length_nil
def Z7c:=@Go.World.cell?_alloc_lt
def Z7W:=@Array.replicate_succ
def Z7X:=@Array.replicate_zero
def Z8h:=@List.push_toArray
def Z82:=@List.append_toArray
def Z7G:=@eq_true
def Z85:=@Go.callsIn_wide
def Z8o:=@Go.grownBy_setCell'
def Z9N:=@Nat.le_of_lt
def Z8T:=@Go.run_takeDeferred
def Z99:=@List.mem_cons_self
def Z9m:=@of_decide_eq_true
def Z8R:=@List.mem_append_right
def Z8t:=@decide_eq_false
def Z74:=@List.mem_map_of_mem
def Z9B:=@List.take_left'
def Z9o:=@Classical.axiomOfChoice
section
namespace Vm
open Go Go.Proofs Go.RowKit
def Pv{x:Int}(hx:Zy x):VC Tryz.prog 91 xw [vu x]<|.bool<|WG x:=by
 refine ZY Tryz.func91 follows Z2 IH rfl ?_;simp[DZ];refine Zz (Sn hx) Z1 ?_;simp_all[WG]
def En{x:Int}(hx:Zy x)(w:World):Calls Tryz.prog 91 #[.int .u64 x] w λe a=>e=.returned (.bool<|WG x)/\Below (xz<|xj w) w a:=
 Ub (Pv hx) rfl rfl w
structure Words (w:World) (ws:List Int) (g o cap:Nat):Prop where
 Y:∀(i:Nat) (x:Int),ws[i]?=J x->w.cell? ⟨g,o+i,U⟩=J (.int .u64 x)
 le:I ws<=cap
 cap:cap<=maxLen
 len:I ws<=1000000
 u64:∀x∈ws,Zy x
def WW(e:Int):List PanicEntry:=[{v:=.iface 166<|.agg #[.int .i64 e],recovered:=xw}]
def Wo(o:Ob):Value:=.agg #[.int .i64 o.Y,.int .i64 o.size,.int .i64 o.Z,.bool o.gone,.int .u64 o.target]
def KP(ws:List Int)(o:Ob):Ending:=
 if(I ws:Int)<o.Y+1+o.size then .panicked (WW 2)else if Xp ((ws.drop<|o.Y.toNat+1).take o.size.toNat) o.gone o.Z 0=xw then .panicked (WW 3)else .returned<|.tuple #[]
def MW(w:World)(ws:List Int)(g o cap:Nat)(C:Words w ws g o cap)(hg:g<xz (xj w))(t:Ob)(a:Nat)(N:t.Y=a)(A:a<I ws)(B:Yo t.size t.Z=xk):
  Calls Tryz.prog 90 #[.slice (J ⟨g,o,U⟩) (I ws) cap,Wo t] w λe w'=>e=KP ws t/\Below (xz<|xj w) w w':=by
 have hl:=C.len;have hc:=C.le;have hm:=C.cap;obtain⟨at_,size,ptrs,gone,target⟩:=t;simp only at N B;subst N;obtain⟨s1,s2,s3,s4⟩:=Yq.1 B;obtain⟨m,rfl⟩:=Z6q s1;have L:=Z6e C;have r:KP ws ⟨a,m,ptrs,gone,target⟩=if(I ws:Int)<a+1+m then .panicked (WW 2)else if Xp ((ws.drop<|a+1).take m) gone ptrs 0=xw then .panicked (WW 3)else .returned<|.tuple #[]:=rfl
 generalize KP ws ⟨a,m,ptrs,gone,target⟩=E at*;unfold Wo;dsimp only;by_cases l:(I ws:Int)<a+1+m
 .rw[Z6k l]at r;have u:=Z6e r;clear r;have S:((I ws- (a+1):Nat):Int)<m:=Z0;go_enter Tryz.func90,Tryz.ntmps90;go_wp2;all_goals exact⟨rfl,u.out.symm,(Z6r _ _).alloc (Z6i _) _⟩
 .rw[Z6h l]at r;have u:=Z6e r;clear r;have P:(m:Int)<=((I ws- (a+1):Nat):Int):=Z0;have Q:m<=I ws- (a+1):=Z0;have T:(I ws- (a+1)<m)=False:=Z7d Z0;have Z:m<=cap- (a+1):=Z0;have a0:m<=255:=Z0;clear C l;by_cases z:cap=a+1
  .have K:m=0:=Z0;subst K;subst z;go_enter Tryz.func90,Tryz.ntmps90;go_wp2;go_loopw [26] (λi wr=>i=.int .i64 0/\Hid (Below (xz<|xj w) w wr)) (λi _=>0)
   case atStart=>exact⟨rfl,Z6e<|(Z6r _ _).alloc (Z6i _) _⟩
   case round=>
    obtain⟨rfl,X⟩:=hrel;go_wp2;go_end0
    exact⟨u.out.symm,X.out⟩
  .go_enter Tryz.func90,Tryz.ntmps90;go_wp2
   go_loopw [26] (λi wr=>∃k:Nat,i=.int .i64 k/\k<=m/\Hid (Below (xz<|xj w) w wr/\wr.heap[xz<|xj w]?=J (.cells #[.int .i64 a,.int .i64 m,.int .i64 ptrs,.bool gone,.int .u64 target] 71 (0,0))/\
     Xp ((ws.drop<|a+1).take m) gone ptrs 0=Xp (((ws.drop<|a+1).take m).drop k) gone ptrs k)) (λi _=>m- (intOf i).toNat)
   case atStart=>exact⟨0,rfl,Z0,Z6e ⟨(Z6r _ _).alloc (Z6i _) _,Z6u w _,rfl⟩⟩
   case round=>
    obtain⟨k,rfl,hk,d⟩:=hrel;by_cases A:k<m
    .obtain⟨x,D⟩:∃x,ws[a+1+k]?=J x:=⟨_,Z6b Z0⟩;have W:Zy x:=L.out.u64 x<|Z6n D;have M:((ws.drop<|a+1).take m)[k]?=J x:=by
      rw[Z6O,Z6k A,Z6C];exact D
     have c0:wr.cell? ⟨g,o+(a+1)+k,U⟩=J (.int .u64 x):=by
      rw[Z77];exact(d.out.1.cell (p:=⟨g,o+(a+1+k),U⟩) hg).trans (L.out.Y _ _ D)
     have c1:wr.cell? ⟨xz<|xj w,1,U⟩=J (.int .i64 m):=Z5U;have c2:wr.cell? ⟨xz<|xj w,2,U⟩=J (.int .i64 ptrs):=Z5U;have c3:wr.cell? ⟨xz<|xj w,3,U⟩=J (.bool gone):=Z5U;have q:=Z0E (gone:=gone) (ptrs:=ptrs) M;have R:(k:Int)<m:=Z0;have G:=ZL d.out.2.1;clear D M;have stop:Xp (((ws.drop<|a+1).take m).drop k) gone ptrs k=xw->E=.panicked (WW 3):=λh=>by
      rw[u.out,d.out.2.2,h,Z6k rfl]
     cases gone
     .by_cases hp:(k:Int)<ptrs
      .cases H:WG x
       .have f:=Z6e<|stop Z5i;clear stop q;go_wp2_with (go_at_call 91;refine(En W _).mono ?_;rintro e w1 ⟨rfl,j⟩;have n:=Z6e j;clear j)
        exact⟨rfl,f.out.symm,d.out.1.trans<|n.out.mono d.out.1.size⟩
       .have y:=Z6e<|q.trans (by simp[H]:_=Xp (((ws.drop<|a+1).take m).drop<|k+1) xw ptrs (k+1));clear stop q;go_wp2_with (go_at_call 91;refine(En W _).mono ?_;rintro e w1 ⟨rfl,j⟩;have n:=Z6e j;clear j)
        go_wp2;go_roundw
        case rel=>
         exact⟨k+1,by go_num,Z0,Z6e ⟨d.out.1.trans<|n.out.mono d.out.1.size,(n.out.block _ G).trans d.out.2.1,d.out.2.2.trans y.out⟩⟩
        case measure=>grind [intOf]
      .have y:=Z6e<|q.trans (by simp[hp]:_=Xp (((ws.drop<|a+1).take m).drop<|k+1) xw ptrs (k+1));clear stop q;go_wp2;go_roundw
       case rel=>exact⟨k+1,by go_num,Z0,Z6e ⟨d.out.1,d.out.2.1,d.out.2.2.trans y.out⟩⟩
       case measure=>grind [intOf]
     .by_cases Y:x=0
      .subst Y;have y:=Z6e<|q.trans (by simp[WG]:_=Xp (((ws.drop<|a+1).take m).drop<|k+1) xk ptrs (k+1));clear stop q;go_wp2;go_roundw
       case rel=>exact⟨k+1,by go_num,Z0,Z6e ⟨d.out.1,d.out.2.1,d.out.2.2.trans y.out⟩⟩
       case measure=>grind [intOf]
      .have f:=Z6e<|stop Z5i;clear stop q;go_wp2;exact⟨rfl,f.out.symm,d.out.1⟩
    .have:k=m:=Z0;subst this;have F:=d.out.2.2;have O:((ws.drop<|a+1).take k).drop k=[]:=Z7R Z5i;rw[O]at F;have f:=Z6e<|u.out.trans (by rw[F];rfl:_=Ending.returned (.tuple #[]));clear F O;go_wp2;go_end0
     exact⟨f.out.symm,d.out.1⟩
end Vm
namespace Vm
open Go Go.Proofs Go.RowKit
def Oi(w:World):Sem.run Tryz.prog (binOp .neq 167 .nilFunc .nilFunc) w=.ok (.bool xw) w:=by rfl
def qp(w:World)(f:FuncId)(vs:Array Value):Sem.run Tryz.prog (binOp .neq 167 (.func (.func f) #[] vs) .nilFunc) w=.ok (.bool xk) w:=by rfl
def LJ{w:World}{b T v0 v1 v2 v3 v4}(h:w.heap[b]?=J (.cells #[v0,v1,v2,v3,v4] T (0,0)))O:
  ((w.alloc O).cell? ⟨b,0,U⟩=J v0/\(w.alloc O).cell? ⟨b,1,U⟩=J v1/\(w.alloc O).cell? ⟨b,2,U⟩=J v2/\(w.alloc O).cell? ⟨b,3,U⟩=J v3/\(w.alloc O).cell? ⟨b,4,U⟩=J v4)/\
  (w.alloc O).frozen? ⟨b,0,U⟩=xw/\(w.alloc O).frozen? ⟨b,1,U⟩=xw/\(w.alloc O).frozen? ⟨b,2,U⟩=xw/\(w.alloc O).frozen? ⟨b,3,U⟩=xw/\(w.alloc O).frozen? ⟨b,4,U⟩=xw:=by
 have a:(w.alloc O).heap[b]?=J _:=(Z6m _ _ _ Z5h).trans h;refine⟨⟨?_,?_,?_,?_,?_⟩,Y7 a,Y7 a,Y7 a,Y7 a,Y7 a⟩<;>(rw[Z6j _ _ _ _ _ _ a];rfl)
def TM(a:Nat)(x:Int):Ending:=if(ZW x).2.2=0 then .returned (Wo ⟨a,(ZW x).1,(ZW x).2.1,xw,0⟩)else .panicked<|WW 3
def He(w:World)(ws:List Int)(g o cap:Nat)(n:Words w ws g o cap)(O:g<xz (xj w))(a:Nat)(x:Int)(hx:ws[a]?=J x):
  Calls Tryz.prog 89 #[.slice (J ⟨g,o,U⟩) (I ws) cap,.int .i64 a,.nilFunc] w λe Q=>e=TM a x/\Below (xz<|xj w) w Q:=by
 have hl:=n.len;have hc:=n.le;have hm:=n.cap;have P:a<I ws:=(Z6d.1 hx).1;have D:(a:Int)<I ws:=Z0;have q:Zy x:=n.u64 x<|Z6n hx;have G:=n.Y a x hx;have C:∀W,Below (xz<|xj w) w W->W.cell? ⟨g,o+a,U⟩=J (.int .u64 x):=λW N=>(N.cell (p:=⟨g,o+a,U⟩) O).trans G;have l:TM a x=if(ZW x).2.2=0 then .returned (Wo ⟨a,(ZW x).1,(ZW x).2.1,xw,0⟩)else .panicked<|WW 3:=rfl
 generalize TM a x=E at*;have B:=Z6e C;have F:=Oi;clear n hx C;by_cases t:(ZW x).2.2=0
 .rw[Z6k t]at l;have r:=Z6e l;clear l;go_enter Tryz.func89,Tryz.ntmps89
  go_wp2_with (first
   |(go_at_call 29;refine(UI q _).mono ?_;rintro e z ⟨rfl,f⟩;have d:=Z6e f;have H:=B.out z<|((((Z6r _ w).alloc (Z6i _) _).alloc (by simp) _).trans<|f.mono (by simp;omega));clear f)
   | (go_at_call 55;refine(Rk q _).mono ?_;rintro e A ⟨rfl,h⟩;have j:=Z6e h
      have M:=d.out.block;have u:A.heap[xz<|xj w]?=J (.cells #[.int .i64 0,.int .i64 0,.int .i64 0,.bool xw,.int .u64 0] 71 (0,0)):=(h.block _ Z5P).trans<|(d.out.block _ Z5j).trans<|(Z6m _ _ _ Z1).trans<|Z6u w _;have y:A.heap[xz (xj w)+1]?=J (.cells #[.int .i64 a,.int .i64 0,.int .i64 0,.bool xw,.int .u64 0] 71 (0,0)):=(h.block _ Z5P).trans<|(d.out.block _ Z1).trans Z5n;obtain⟨⟨R,S,T,X,Y⟩,y0,y1,y2,y3,y4⟩:=LJ u<|.cells #[.int .i64 (ZW x).1,.int .i64 (ZW x).2.1] 42;obtain⟨⟨p0,p1,p2,p3,p4⟩,q0,q1,q2,q3,q4⟩:=LJ y<|.cells #[.int .i64 (ZW x).1,.int .i64 (ZW x).2.1] 42;have Z:=Z6e<|And.intro u y;clear h M u y))
  refine Z6x (v:=Wo ⟨a,(ZW x).1,(ZW x).2.1,xw,0⟩) ?_ rfl ⟨r.out.symm,?_⟩
  .simp[results,Tryz.results89,go_sem,Wo,R,S,T,X,Y]
  have k:=(((Z6r _ w).alloc (Z6i _)<|.cells #[.int .i64 0,.int .i64 0,.int .i64 0,.bool xw,.int .u64 0] 71).alloc Z1<|.cells #[.int .i64 a,.int .i64 0,.int .i64 0,.bool xw,.int .u64 0] 71).trans<|d.out.mono Z5j;have L:=(k.trans<|j.out.mono (by have:=k.size;omega)).alloc (by have:=k.size;have:=j.out.size;omega)<|.cells #[.int .i64 (ZW x).1,.int .i64 (ZW x).2.1] 42;exact((((((L.setCell (p:=⟨xz (xj w)+1,1,U⟩) Z1 _).setCell (p:=⟨xz (xj w)+1,2,U⟩) Z1 _).setCell (p:=⟨xz<|xj w,0,U⟩) (Z6i _) _).setCell (p:=⟨xz<|xj w,1,U⟩) (Z6i _) _).setCell (p:=⟨xz<|xj w,2,U⟩) (Z6i _) _).setCell (p:=⟨xz<|xj w,3,U⟩) (Z6i _) _).setCell (p:=⟨xz<|xj w,4,U⟩) (Z6i _) _
 .rw[Z6h t]at l;have r:=Z6e l;clear l;have K:((ZW x).2.2=0)=False:=Z7d t;go_enter Tryz.func89,Tryz.ntmps89
  go_wp2_with (first
   |(go_at_call 29;refine(UI q _).mono ?_;rintro e z ⟨rfl,f⟩;have d:=Z6e f;have H:=B.out z<|((((Z6r _ w).alloc (Z6i _) _).alloc (by simp) _).trans<|f.mono (by simp;omega));clear f)
   |(go_at_call 55;refine(Rk q _).mono ?_;rintro e A ⟨rfl,h⟩;have j:=Z6e h;clear h))
  refine⟨rfl,r.out.symm,?_⟩;have k:=(((Z6r _ w).alloc (Z6i _)<|.cells #[.int .i64 0,.int .i64 0,.int .i64 0,.bool xw,.int .u64 0] 71).alloc Z1<|.cells #[.int .i64 a,.int .i64 0,.int .i64 0,.bool xw,.int .u64 0] 71).trans<|d.out.mono Z5j;exact(k.trans<|j.out.mono (by have:=k.size;omega)).alloc (by have:=k.size;have:=j.out.size;omega) _
end Vm
namespace Vm
open Go Go.Proofs Go.RowKit
def Fc(s p:Int)(w:World):Calls Tryz.prog 71 #[.agg #[.int .i64 s,.int .i64 p]] w λe a=>e=.returned (.bool<|Yo s p)/\Below (xz<|xj w) w a:=
 Ub jx rfl rfl w
structure Shps (w:World) (shs:List<|Int×Int) (bs:Nat) (v:Value):Prop where
 box:w.heap[bs]?=J (.cells #[v] 155 (0,0))
 val:(∃g o cap,v=.slice (J ⟨g,o,U⟩) (I shs) cap/\I shs<=cap/\cap<=maxLen/\g<xz (xj w)/\∀(i:Nat) (x:Int×Int),shs[i]?=J x->w.cell? ⟨g,o+i*2,U⟩=J (.int .i64 x.1)/\w.cell? ⟨g,o+i*2+1,U⟩=J (.int .i64 x.2))\/
  (∃a cap,v=.slice a 0 cap/\shs=[])
def MI(w:World)(shs:List<|Int×Int)(bt h:Nat)(v:Value)(x:I shs<=1000000)(d:Shps w shs h v)(f:w.heap[bt]?=J (.cells #[.int .i64<|I shs] 3 (0,0))):
  Calls Tryz.prog 85 #[.pointer<|J ⟨bt,0,U⟩,.pointer<|J ⟨h,0,U⟩] w λe p=>e=.panicked (WW 3)/\Below (xz<|xj w) w p:=by
 have k:w.cell? ⟨bt,0,U⟩=J (.int .i64<|I shs):=by rw[Z6j _ _ _ _ _ _ f];rfl
 have n:=ZL f;have j:=ZL d.box;have q:w.cell? ⟨h,0,U⟩=J v:=by rw[Z6j _ _ _ _ _ _ d.box];rfl
 obtain⟨g,o,cap,rfl,r,t,u,l⟩|⟨a,cap,rfl,rfl⟩:=d.val
 .clear l d f;go_enter Tryz.func85,Tryz.ntmps85;go_wp2;exact⟨rfl,rfl,(Z6r _ _).alloc (Z6i _) _⟩
 .clear d f;simp only[Z7v]at k;go_enter Tryz.func85,Tryz.ntmps85;go_wp2;exact⟨rfl,rfl,(Z6r _ _).alloc (Z6i _) _⟩
def MH(w:World)(shs:List<|Int×Int)(bt j t:Nat)(v:Value)(x:Int×Int)(L:I shs<=1000000)(f:Shps w shs j v)(k:w.heap[bt]?=J (.cells #[.int .i64 t] 3 (0,0)))(hx:shs[t]?=J x)(r:Yo x.1 x.2=xw):
  Calls Tryz.prog 85 #[.pointer<|J ⟨bt,0,U⟩,.pointer<|J ⟨j,0,U⟩] w λe A=>e=.panicked (WW 3)/\Below (xz<|xj w) w A:=by
 have B:w.cell? ⟨bt,0,U⟩=J (.int .i64 t):=Z5t;have u:=ZL k;have p:=ZL f.box;have y:t<I shs:=(Z6d.1 hx).1;have z:¬t=I shs:=Z0;have q:(t:Int)<I shs:=Z0;have C:w.cell? ⟨j,0,U⟩=J v:=by rw[Z6j _ _ _ _ _ _ f.box];rfl
 obtain⟨g,o,cap,rfl,G,H,K,n⟩|⟨a,cap,rfl,rfl⟩:=f.val
 .obtain⟨D,F⟩:=n t x hx;have l:=Fc x.1 x.2;rw[r]at l;clear n f k hx r;go_enter Tryz.func85,Tryz.ntmps85;go_wp2_with (go_at_call 71;refine(l _).mono ?_;rintro e M ⟨rfl,d⟩;have h:=Z6e d;clear d)
  exact⟨rfl,rfl,((Z6r _ w).alloc (Z6i _) _).trans<|h.out.mono Z1⟩
 grind
def MJ(w:World)(shs:List<|Int×Int)(bt h t:Nat)(v:Value)(x:Int×Int)(hl:I shs<=1000000)(A:Shps w shs h v)(q:w.heap[bt]?=J (.cells #[.int .i64 t] 3 (0,0)))(hx:shs[t]?=J x)(N:Yo x.1 x.2=xk)(u:h≠bt)
  (y:∀g o cap,v=.slice (J ⟨g,o,U⟩) (I shs) cap->g≠bt):
  Calls Tryz.prog 85 #[.pointer<|J ⟨bt,0,U⟩,.pointer<|J ⟨h,0,U⟩] w λe O=>e=.returned (.agg #[.int .i64 x.1,.int .i64 x.2])/\w.grownBy O (J bt)/\O.heap[bt]?=J (.cells #[.int .i64 ((t+1:Nat):Int)] 3 (0,0)):=by
 have P:w.cell? ⟨bt,0,U⟩=J (.int .i64 t):=Z5B;have j:=ZL q;have r:=ZL A.box;have W:t<I shs:=(Z6d.1 hx).1;have z:¬t=I shs:=Z0;have M:(t:Int)<I shs:=Z0;have Q:w.cell? ⟨h,0,U⟩=J v:=by rw[Z6j _ _ _ _ _ _ A.box];rfl
 have hf:=Y7 (o:=0) q;have K:¬h=bt:=u;have L:¬bt=h:=λe=>u e.symm;obtain⟨g,o,cap,rfl,h1,h2,G,H⟩|⟨a,cap,rfl,rfl⟩:=A.val
 .obtain⟨R,S⟩:=H t x hx;have hg:=y g o cap rfl;have F:=Fc x.1 x.2;rw[N]at F;have D:=Z6e q;clear H A q hx N y;go_enter Tryz.func85,Tryz.ntmps85
  go_wp2_with (go_at_call 71;refine(F _).mono ?_;rintro e f ⟨rfl,d⟩
               have B:=Z6e d;have s1:=d.size;have k0:f.cell? ⟨bt,0,U⟩=J (.int .i64 t):=(d.cell (p:=⟨bt,0,U⟩) Z5j).trans<|(Z7c _ _ _ j).trans P;have k1:f.frozen? ⟨bt,0,U⟩=xw:=Y7<|(d.block bt Z5j).trans<|(Z6m _ _ _ j).trans D.out;have k2:f.cell? ⟨h,0,U⟩=J (.slice (J ⟨g,o,U⟩) (I shs) cap):=(d.cell (p:=⟨h,0,U⟩) Z5j).trans<|(Z7c _ _ _ r).trans Q;have k3:f.cell? ⟨g,o+t*2,U⟩=J (.int .i64 x.1):=(d.cell (p:=⟨g,o+t*2,U⟩) Z5j).trans<|(Z7c _ _ _ G).trans R;have k4:f.cell? ⟨g,o+t*2+1,U⟩=J (.int .i64 x.2):=(d.cell (p:=⟨g,o+t*2+1,U⟩) Z5j).trans<|(Z7c _ _ _ G).trans S;have n:f.heap[xz<|xj w]?=J (.cells #[.int .i64 0,.int .i64 0] 42 (0,0)):=(d.block _ Z1).trans<|Z6u w _;have x0:f.cell? ⟨xz<|xj w,0,U⟩=J (.int .i64 0):=by rw[Z6j _ _ _ _ _ _ n];rfl
               have x1:f.cell? ⟨xz<|xj w,1,U⟩=J (.int .i64 0):=by rw[Z6j _ _ _ _ _ _ n];rfl
               have y0:=Y7 (o:=0) n;have y1:=Y7 (o:=1) n;have Y:¬xz (xj w)=bt:=Z0;have Z:¬bt=xz (xj w):=Z0;have HR:=Z6e n;clear d n)
  have l:Below (xz<|xj w) w f:=((Z6r _ w).alloc (Z6i _)<|.cells #[.int .i64 0,.int .i64 0] 42).trans<|B.out.mono Z1;have X:f.heap[bt]?=J (.cells #[.int .i64 t] 3 (0,0)):=(l.block bt j).trans D.out;refine Z6x (v:=.agg #[.int .i64 x.1,.int .i64 x.2]) ?_ rfl ⟨rfl,⟨l.os,l.tape,l.output,?_,λk T z=> ?_⟩,?_⟩
  .simp[results,Tryz.results85,go_sem,x0,x1,Y,Z]
  simp[World.setCell];exact l.size;have C:k≠bt:=λe=>z (by rw[e]);rw[Z6w _ _ _ _ Z5h,Z6w _ _ _ _ Z5h,Z6w _ _ _ _ C];exact l.block k T;simp_all[Z6w,World.setCell,Z6I]
 grind
end Vm
namespace Vm
open Go Go.Proofs Go.RowKit
def Hf(w:World)(f:FuncId)(vs:Array Value)(ws:List Int)(g o cap:Nat)(q:Words w ws g o cap)(R:g<xz (xj w))(a:Nat)(x:Int)(hx:ws[a]?=J x)(y:¬(adr x).2=0):
  Calls Tryz.prog 89 #[.slice (J ⟨g,o,U⟩) (I ws) cap,.int .i64 a,.func (.func f) #[] vs] w λe T=>e=TM a x/\Below (xz<|xj w) w T:=by
 have hl:=q.len;have hc:=q.le;have hm:=q.cap;have S:a<I ws:=(Z6d.1 hx).1;have G:(a:Int)<I ws:=Z0;have r:Zy x:=q.u64 x<|Z6n hx;have K:=q.Y a x hx;have F:∀W,Below (xz<|xj w) w W->W.cell? ⟨g,o+a,U⟩=J (.int .u64 x):=λW P=>(P.cell (p:=⟨g,o+a,U⟩) R).trans K;have n:TM a x=if(ZW x).2.2=0 then .returned (Wo ⟨a,(ZW x).1,(ZW x).2.1,xw,0⟩)else .panicked<|WW 3:=rfl
 generalize TM a x=E at*;have D:=Z6e F;have Q:=λW=>qp W f vs;have H:((adr x).2=0)=False:=Z7d y;clear q hx F;by_cases u:(ZW x).2.2=0
 .rw[Z6k u]at n;have t:=Z6e n;clear n;go_enter Tryz.func89,Tryz.ntmps89
  go_wp2_with (first
   |(go_at_call 29;refine(UI r _).mono ?_;rintro e B ⟨rfl,h⟩;have d:=Z6e h;have L:=D.out B<|((((Z6r _ w).alloc (Z6i _) _).alloc (by simp) _).trans<|h.mono (by simp;omega));clear h)
   | (go_at_call 55;refine(Rk r _).mono ?_;rintro e C ⟨rfl,j⟩;have k:=Z6e j
      have O:=d.out.block;have z:C.heap[xz<|xj w]?=J (.cells #[.int .i64 0,.int .i64 0,.int .i64 0,.bool xw,.int .u64 0] 71 (0,0)):=(j.block _ Z5P).trans<|(d.out.block _ Z5j).trans<|(Z6m _ _ _ Z1).trans<|Z6u w _;have A:C.heap[xz (xj w)+1]?=J (.cells #[.int .i64 a,.int .i64 0,.int .i64 0,.bool xw,.int .u64 0] 71 (0,0)):=(j.block _ Z5P).trans<|(d.out.block _ Z1).trans Z5n;obtain⟨⟨X,Y,Z,x3,x4⟩,y0,y1,y2,y3,y4⟩:=LJ z<|.cells #[.int .i64 (ZW x).1,.int .i64 (ZW x).2.1] 42;obtain⟨⟨p0,p1,p2,p3,p4⟩,q0,q1,q2,q3,q4⟩:=LJ A<|.cells #[.int .i64 (ZW x).1,.int .i64 (ZW x).2.1] 42;have HR:=Z6e<|And.intro z A;clear j O z A))
  refine Z6x (v:=Wo ⟨a,(ZW x).1,(ZW x).2.1,xw,0⟩) ?_ rfl ⟨t.out.symm,?_⟩
  .simp[results,Tryz.results89,go_sem,Wo,X,Y,Z,x3,x4]
  have l:=(((Z6r _ w).alloc (Z6i _)<|.cells #[.int .i64 0,.int .i64 0,.int .i64 0,.bool xw,.int .u64 0] 71).alloc Z1<|.cells #[.int .i64 a,.int .i64 0,.int .i64 0,.bool xw,.int .u64 0] 71).trans<|d.out.mono Z5j;have N:=(l.trans<|k.out.mono (by have:=l.size;omega)).alloc (by have:=l.size;have:=k.out.size;omega)<|.cells #[.int .i64 (ZW x).1,.int .i64 (ZW x).2.1] 42;exact((((((N.setCell (p:=⟨xz (xj w)+1,1,U⟩) Z1 _).setCell (p:=⟨xz (xj w)+1,2,U⟩) Z1 _).setCell (p:=⟨xz<|xj w,0,U⟩) (Z6i _) _).setCell (p:=⟨xz<|xj w,1,U⟩) (Z6i _) _).setCell (p:=⟨xz<|xj w,2,U⟩) (Z6i _) _).setCell (p:=⟨xz<|xj w,3,U⟩) (Z6i _) _).setCell (p:=⟨xz<|xj w,4,U⟩) (Z6i _) _
 .rw[Z6h u]at n;have t:=Z6e n;clear n;have M:((ZW x).2.2=0)=False:=Z7d u;go_enter Tryz.func89,Tryz.ntmps89
  go_wp2_with (first
   |(go_at_call 29;refine(UI r _).mono ?_;rintro e B ⟨rfl,h⟩;have d:=Z6e h;have L:=D.out B<|((((Z6r _ w).alloc (Z6i _) _).alloc (by simp) _).trans<|h.mono (by simp;omega));clear h)
   |(go_at_call 55;refine(Rk r _).mono ?_;rintro e C ⟨rfl,j⟩;have k:=Z6e j;clear j))
  refine⟨rfl,t.out.symm,?_⟩;have l:=(((Z6r _ w).alloc (Z6i _)<|.cells #[.int .i64 0,.int .i64 0,.int .i64 0,.bool xw,.int .u64 0] 71).alloc Z1<|.cells #[.int .i64 a,.int .i64 0,.int .i64 0,.bool xw,.int .u64 0] 71).trans<|d.out.mono Z5j;exact(l.trans<|k.out.mono (by have:=l.size;omega)).alloc (by have:=l.size;have:=k.out.size;omega) _
def AV(w:World)(vs:Array Value)(ws:List Int)(g o cap:Nat)(h:Words w ws g o cap)(H:g<xz (xj w))(a:Nat)(x:Int)(hx:ws[a]?=J x)(B:(adr x).2=0)
  (d:∀W,Below (xz<|xj w) w W->Calls Tryz.prog 85 vs W λe W'=>e=.panicked (WW 3)/\Below (xz<|xj W) W W'):
  Calls Tryz.prog 89 #[.slice (J ⟨g,o,U⟩) (I ws) cap,.int .i64 a,.func (.func 85) #[] vs] w λe D=>e=.panicked (WW 3)/\Below (xz<|xj w) w D:=by
 have K:=h.len;have G:=h.le;have L:=h.cap;have A:a<I ws:=(Z6d.1 hx).1;have u:(a:Int)<I ws:=Z0;have C:Zy x:=h.u64 x<|Z6n hx;have F:=h.Y a x hx;have z:=λW=>qp W 85 vs;have y:=Z6e d;clear h hx d;go_enter Tryz.func89,Tryz.ntmps89
 go_wp2_with (first
  | (go_at_call 29;refine(UI C _).mono ?_;rintro e l ⟨rfl,f⟩
     have t:Below (xz<|xj w) w l:=((((Z6r _ w).alloc (Z6i _) _).alloc Z1 _).trans<|f.mono Z5j);have k:l.heap[xz (xj w)+1]?=J (.cells #[.int .i64 a,.int .i64 0,.int .i64 0,.bool xw,.int .u64 0] 71 (0,0)):=(f.block _ Z1).trans Z5n;have p3:l.cell? ⟨xz (xj w)+1,3,U⟩=J (.bool xw):=Z5t;have p4:l.cell? ⟨xz (xj w)+1,4,U⟩=J (.int .u64 0):=Z5t;have M:=Y7 (o:=3) k;have N:=Y7 (o:=4) k;have q:=Z6e t;clear f t k)
  |(go_at_call 85;refine(y.out _ ?_).mono ?_;rotate_left;rintro e O ⟨rfl,j⟩;have n:=Z6e j;clear j))
 case refine_1=>exact(q.out.setCell (p:=⟨xz (xj w)+1,3,U⟩) Z1 _).setCell (p:=⟨xz (xj w)+1,4,U⟩) Z1 _
 case refine_2=>
  have r:=(q.out.setCell (p:=⟨xz (xj w)+1,3,U⟩) Z1<|.bool xk).setCell (p:=⟨xz (xj w)+1,4,U⟩) Z1<|.int .u64 (adr x).1;exact⟨rfl,rfl,r.trans<|n.out.mono r.size⟩
theorem MN{w W:World}{r}(h:w.grownBy W r){p}(f:xz (xj w)<=p.block)u:w.grownBy (W.setCell p u) r:=
 ⟨h.os,h.tape,h.output,by simpa[World.setCell]using h.size,λk d a=>(Z6w _ _ _ _ Z0).trans<|h.block k d a⟩
def Hd(w:World)(vs:Array Value)(ws:List Int)(g o cap:Nat)(t:Words w ws g o cap)(hg:g<xz (xj w))(a:Nat)(x:Int)(hx:ws[a]?=J x)(X:(adr x).2=0)
  (bt:Nat) (O:Obj) (s p:Int) (Q:bt<xz (xj w))
  (h:∀W,Below (xz<|xj w) w W->Calls Tryz.prog 85 vs W λe W'=>e=.returned (.agg #[.int .i64 s,.int .i64 p])/\W.grownBy W' (J bt)/\W'.heap[bt]?=J O):
  Calls Tryz.prog 89 #[.slice (J ⟨g,o,U⟩) (I ws) cap,.int .i64 a,.func (.func 85) #[] vs] w λe N=>e=.returned (Wo ⟨a,s,p,xk,(adr x).1⟩)/\w.grownBy N (J bt)/\N.heap[bt]?=J O:=by
 have hl:=t.len;have hc:=t.le;have hm:=t.cap;have T:a<I ws:=(Z6d.1 hx).1;have K:(a:Int)<I ws:=Z0;have Y:Zy x:=t.u64 x<|Z6n hx;have c0:=t.Y a x hx;have R:=λW=>qp W 85 vs;have P:=Z6e h;clear t hx h;go_enter Tryz.func89,Tryz.ntmps89
 go_wp2_with (first
  | (go_at_call 29;refine(UI Y _).mono ?_;rintro e A ⟨rfl,l⟩
     have G:Below (xz<|xj w) w A:=((((Z6r _ w).alloc (Z6i _) _).alloc Z1 _).trans<|l.mono Z5j);have u:A.heap[xz (xj w)+1]?=J (.cells #[.int .i64 a,.int .i64 0,.int .i64 0,.bool xw,.int .u64 0] 71 (0,0)):=(l.block _ Z1).trans Z5n;have p3:A.cell? ⟨xz (xj w)+1,3,U⟩=J (.bool xw):=Z5A;have p4:A.cell? ⟨xz (xj w)+1,4,U⟩=J (.int .u64 0):=Z5A;have q3:=Y7 (o:=3) u;have q4:=Y7 (o:=4) u;have M:A.heap[xz<|xj w]?=J (.cells #[.int .i64 0,.int .i64 0,.int .i64 0,.bool xw,.int .u64 0] 71 (0,0)):=(l.block _ Z5j).trans<|(Z6m _ _ _ Z1).trans<|Z6u w _;have B:=Z6e<|And.intro M u;have F:=Z6e G;clear l G M u)
  | (go_at_call 85;refine(P.out _ ?_).mono ?_;rotate_left;rintro e d ⟨rfl,n,y⟩
     have f:=Z6e n;have C:=Z6e y;have q:d.heap[xz (xj w)+1]?=J (.cells #[.int .i64 a,.int .i64 0,.int .i64 0,.bool xk,.int .u64 (adr x).1] 71 (0,0)):=(n.block _ (by simp[World.setCell];exact ZL B.out.2) Z5j).trans (by simp[World.setCell,Z6I,B.out.2]);have j:d.heap[xz<|xj w]?=J (.cells #[.int .i64 0,.int .i64 0,.int .i64 0,.bool xw,.int .u64 0] 71 (0,0)):=(n.block _ (by simp[World.setCell];exact ZL B.out.1) Z5j).trans (by simp[World.setCell,Z6I,B.out.1]);have s0:d.cell? ⟨xz (xj w)+1,0,U⟩=J (.int .i64 a):=Z5B;have s1:d.cell? ⟨xz (xj w)+1,1,U⟩=J (.int .i64 0):=Z5B;have s2:d.cell? ⟨xz (xj w)+1,2,U⟩=J (.int .i64 0):=Z5B;have s3:d.cell? ⟨xz (xj w)+1,3,U⟩=J (.bool xk):=Z5B;have s4:d.cell? ⟨xz (xj w)+1,4,U⟩=J (.int .u64 (adr x).1):=Z5B;have Z:d.cell? ⟨xz<|xj w,0,U⟩=J (.int .i64 0):=Z5I;have t1:d.cell? ⟨xz<|xj w,1,U⟩=J (.int .i64 0):=Z5I;have t2:d.cell? ⟨xz<|xj w,2,U⟩=J (.int .i64 0):=Z5I;have t3:d.cell? ⟨xz<|xj w,3,U⟩=J (.bool xw):=Z5I;have t4:d.cell? ⟨xz<|xj w,4,U⟩=J (.int .u64 0):=Z5I;have u1:=Y7 (o:=1) q;have u2:=Y7 (o:=2) q;have v0:=Y7 (o:=0) j;have v1:=Y7 (o:=1) j;have v2:=Y7 (o:=2) j;have v3:=Y7 (o:=3) j;have v4:=Y7 (o:=4) j;clear n y j q))
 case refine_1=>exact(F.out.setCell (p:=⟨xz (xj w)+1,3,U⟩) Z1 _).setCell (p:=⟨xz (xj w)+1,4,U⟩) Z1 _
 next=>
  have r:=(F.out.setCell (p:=⟨xz (xj w)+1,3,U⟩) Z1<|.bool xk).setCell (p:=⟨xz (xj w)+1,4,U⟩) Z1<|.int .u64 (adr x).1;have S:w.grownBy d<|J bt:=⟨f.out.os.trans r.os,f.out.tape.trans r.tape,f.out.output.trans r.output,Z6H r.size f.out.size,λk H D=>(f.out.block k (Z6o H r.size) D).trans<|r.block k H⟩;have L:bt≠xz (xj w)+1:=Z0;have z:bt≠xz (xj w):=Z0;clear r;refine Z6x (v:=Wo ⟨a,s,p,xk,(adr x).1⟩) ?_ rfl ⟨rfl,?_,?_⟩
  .simp[results,Tryz.results89,go_sem,Wo,Z,t1,t2,t3,t4]
  grind [MN];rw[Z6w _ _ _ _ z,Z6w _ _ _ _ z,Z6w _ _ _ _ z,Z6w _ _ _ _ z,Z6w _ _ _ _ z,Z6w _ _ _ _ L,Z6w _ _ _ _ L];exact C.out
end Vm
namespace Vm
open Go Go.Proofs Go.RowKit Go.Shelf
def U3(W:World)(bl:Nat):Option Nat:=(W.cell? ⟨bl,0,U⟩).bind Value.ownBlock
structure KpW (bl base:Nat) (A B:World):Prop where
 size:xz (xj A)<=xz (xj B)
 same:∀k o,A.heap[k]?=J o->o.isCells=xk->k≠bl->(k<base\/U3 A bl≠J k)->B.heap[k]?=J o
 row:∀k,k<xz (xj A)->U3 B bl=J k->U3 A bl=J k
theorem KpW.trans{bl base A B C}(h:KpW bl base A B)(k:KpW bl base B C):KpW bl base A C:=
 ⟨Z6H h.size k.size,λi o a g j d=>k.same i o (h.same i o a g j d) g j (d.imp id λf e=>f<|h.row i Z5h e),λi a d=>h.row i a<|k.row i (Z6o a h.size) d⟩
theorem KpW.put{bl base W l o}d(j:W.heap[l]?=J o)(n:o.isCells=xw)(g:bl≠l):KpW bl base W<|W.putObj l d:=by
 have a:(W.putObj l d).cell? ⟨bl,0,U⟩=W.cell? ⟨bl,0,U⟩:=Z75<|Z6P Z0;refine⟨Z1,λk q h f _ _=> ?_,λk _ p=> ?_⟩;grind [World.putObj_heap_other];simp_all[U3]
def Kh(ws:List Int)(g o cap:Nat)(gv:Value)(shs:List<|Int×Int)(old:Bool)(bt:Option Nat)(K:Nat->World->Prop):Prop:=
 ∀(W:World) (a t:Nat) (x:Int),Words W ws g o cap->g<xz (xj W)->K t W->ws[a]?=J x->
  Calls Tryz.prog 89 #[.slice (J ⟨g,o,U⟩) (I ws) cap,.int .i64 a,gv] W λe W'=>W.grownBy W' bt/\match XZ shs old a t x with
   |some (d,f)=>e=.returned (Wo d)/\K f W'
   |none=>e=.panicked (WW 3)
def endS(ws:List Int)(shs:List<|Int×Int)(old:Bool)(K:Nat->World->Prop)(xs:List Ob)(W:World):Prop:=
 ∃t,K t W/\ZQ ws shs old=(if t<(I shs) then([],3)else(xs,0))
def M4(ws:List Int)(shs:List<|Int×Int)(old:Bool)(chain:List PanicEntry)(pre:List Ob)(W:World):Prop:=
 ∃e,(e=2\/e=3)/\chain=WW e/\ZQ ws shs old=([],e)
structure Stat6 (ws:List Int) (g o cap:Nat) (sv:Value) (bw bg base bl:Nat) (bt:Option Nat) (gv:Value) (W:World):Prop where
 dr:Words W ws g o cap
 tj:sv=.slice (J ⟨g,o,U⟩) (I ws) cap\/(ws=[]/\∃a c,sv=.slice a 0 c)
 py:W.heap[bw]?=J (.cells #[sv] 29 (0,0))
 sr:W.heap[bg]?=J (.cells #[gv] 167 (0,0))
 gb:ws≠[]->∃ob,W.heap[g]?=J ob/\ob.isCells=xk
 lt:g<base/\bw<base/\bg<base/\base<=xz (xj W)
 ne:g≠bl/\bw≠bl/\bg≠bl
 nt:J g≠bt/\J bw≠bt/\J bg≠bt
section
variable {ws:List Int}{g o cap bw bg base bl:Nat}{bt:Option Nat}{sv gv:Value}{W W':World}
theorem Stat6.of(h:Stat6 ws g o cap sv bw bg base bl bt gv W)(n:xz (xj W)<=xz (xj W'))(d:∀k a,W.heap[k]?=J a->a.isCells=xk->k<base->k≠bl->J k≠bt->W'.heap[k]?=J a):Stat6 ws g o cap sv bw bg base bl bt gv W':=by
 refine⟨⟨λi x p=> ?_,h.dr.le,h.dr.cap,h.dr.len,h.dr.u64⟩,h.tj,d _ _ h.py rfl h.lt.2.1 h.ne.2.1 h.nt.2.1,d _ _ h.sr rfl h.lt.2.2.1 h.ne.2.2 h.nt.2.2,λj=> ?_,⟨h.lt.1,h.lt.2.1,h.lt.2.2.1,Z6H h.lt.2.2.2 n⟩,h.ne,h.nt⟩;have j:ws≠[]:=Z5h;let⟨a,l,f⟩:=h.gb j;have q:=d _ _ l f h.lt.1 h.ne.1 h.nt.1;rw[<-h.dr.Y i x p];grind [World.cell?_of_block];let⟨a,l,f⟩:=h.gb j;exact⟨a,d _ _ l f h.lt.1 h.ne.1 h.nt.1,f⟩
def Stat6.grown(h:Stat6 ws g o cap sv bw bg base bl bt gv W)(a:W.grownBy W' bt):=
 h.of a.size λk j d _ _ _ f=>(a.block k Z5h f).trans d
def Stat6.kp(h:Stat6 ws g o cap sv bw bg base bl bt gv W)(f:KpW bl base W W'):=
 h.of f.size λk n a j l d _=>f.same k n a j d Z0
end
def WF{W W'}(a:Below (xz<|xj W) W W')r:W.grownBy W' r:=⟨a.os,a.tape,a.output,a.size,λk d _=>a.block k d⟩
def Hb{ws g o cap}:Kh ws g o cap .nilFunc [] xw U (λt _=>t=0):=by
 intro W a t x h f k j;refine(He W ws g o cap h f a x j).mono ?_;rintro e W' ⟨rfl,d⟩;refine⟨WF d U,?_⟩;unfold XZ TM;grind
def Shps.grown{W W' shs d v r}(h:Shps W shs d v)(j:W.grownBy W' r)(f:J d≠r)(p:shs≠[]->∀g o cap,v=.slice (J ⟨g,o,U⟩) (I shs) cap->J g≠r):Shps W' shs d v:=by
 refine⟨(j.block _ (ZL h.box) f).trans h.box,?_⟩;obtain⟨g,o,cap,rfl,l,n,k,q⟩|⟨a,cap,rfl,rfl⟩:=h.val;refine .inl ⟨g,o,cap,rfl,l,n,Z6o k j.size,λi x u=> ?_⟩;have t:=j.block g k Z5h;grind [World.cell?_of_block];simp
def KOld(shs:List<|Int×Int)(bt a:Nat)(v:Value)(t:Nat)(W:World):Prop:=W.heap[bt]?=J (.cells #[.int .i64 t] 3 (0,0))/\Shps W shs a v/\t<=I shs
def Hc{ws:List Int}{g o cap:Nat}{shs:List (Int×Int)}{bt k:Nat}{v:Value}(B:I shs<=1000000)(n:k≠bt)(q:shs≠[]->∀g o cap,v=.slice (J ⟨g,o,U⟩) (I shs) cap->g≠bt):
  Kh ws g o cap (.func (.func 85) #[] #[.pointer<|J ⟨bt,0,U⟩,.pointer<|J ⟨k,0,U⟩]) shs xk (J bt) (KOld shs bt k v):=by
 intro W a t x y w F z;obtain⟨A,D,M⟩:=F;have p:J k≠J bt:=λe=>n Z5h;have r:shs≠[]->∀g o cap,v=.slice (J ⟨g,o,U⟩) (I shs) cap->J g≠J bt:=λL g o cap e O=>q L g o cap e Z5h;have h:∀W',Below (xz<|xj W) W W'->Shps W' shs k v:=λW' d=>D.grown (WF d U) Z1 (λ_ _ _ _ _=>Z1);have f:∀W',Below (xz<|xj W) W W'->W'.heap[bt]?=J (.cells #[.int .i64 t] 3 (0,0)):=λW' d=>(d.block _<|ZL A).trans A;by_cases l:(adr x).2=0;unfold XZ;rw[Z6k ⟨rfl,l⟩];cases j:shs[t]? with
 |none=>
  have:t=I shs:=by have:=Z8c.1 j;omega
  subst this;refine(AV W _ ws g o cap y w a x z l λW' d=>MI W' shs bt k v B (h W' d)<|f W' d).mono ?_;rintro e W' ⟨rfl,d⟩;exact⟨WF d _,rfl⟩
 |some s=>
  simp only;cases u:Yo s.1 s.2;refine(AV W _ ws g o cap y w a x z l λW' d=>MH W' shs bt k t v s B (h W' d) (f W' d) j u).mono ?_;rintro e W' ⟨rfl,d⟩;exact⟨WF d _,Z1⟩;refine(Hd W _ ws g o cap y w a x z l bt _ s.1 s.2 (ZL A) λW' d=>MJ W' shs bt k t v s B (h W' d) (f W' d) j u n<|q (λe=>Z5i)).mono ?_;rintro e W' ⟨rfl,C,G⟩;have K:=(Z6d.1 j).1;refine⟨C,?_⟩;simp only[Z7m];exact⟨trivial,G,D.grown C p r,Z0⟩
 refine(Hf W _ _ ws g o cap y w a x z l).mono ?_;rintro e W' ⟨rfl,d⟩;refine⟨WF d _,?_⟩;unfold XZ TM;rw[Z6h (λH=>l H.2)];by_cases N:(ZW x).2.2=0;simp only[N,Z7m];exact⟨trivial,f W' d,h W' d,M⟩;simp_all
end Vm
end
section
namespace Vm
open Go Go.Proofs Go.RowKit Go.Shelf
def Az(a:Nat)(W:World):Prop:=∀k,U3 W a=J k->k<xz (xj W)
def WS{A B C:World}{r}(h:A.grownBy B r)(k:B.grownBy C r):A.grownBy C r:=
 ⟨k.os.trans h.os,k.tape.trans h.tape,k.output.trans h.output,Z6H h.size k.size,λi a d=>(k.block i (Z6o a h.size) d).trans<|h.block i a d⟩
def Z1m ws shs old{a t g x d}(hx:ws[a]?=J x)(h:XZ shs old a t x=J (d,g)){f pre}:
  Xi ws shs old (f+1) a t pre=if(I ws:Int)<a+1+d.size then([],2)else if Xp ((ws.drop<|a+1).take d.size.toNat) d.gone d.Z 0=xw then([],3)else Xi ws shs old f (a+1+d.size.toNat) g (pre++[d]):=by
 simp_all[Xi]
def IZ(n:Nat){w:World}{ws:List Int}{g o cap bw bg base z:Nat}{bt:Option Nat}{sv gv:Value}{shs:List (Int×Int)}{old:Bool}{K:Nat->World->Prop}(e3:Stat6 ws g o cap sv bw bg base z bt gv w)
  (f4:z<base) (b4:J z≠bt) (b1:Kh ws g o cap gv shs old bt K) (d9:K 0 w) (a8:∀t W W',K t W->Below (xz<|xj W) W W'->K t W') (e0:∀t W W',K t W->KpW z base W W'->K t W'):
  AA Fence.wide n Tryz.prog 88 #[.pointer<|J ⟨bw,0,U⟩,.pointer<|J ⟨bg,0,U⟩] (λd:Ob=> #[Wo d]) (KpW z base) (endS ws shs old K) (M4 ws shs old) (I ws) bt (Az z) w:=by
 intro l h W hW d8 hJ hY h0;refine callsIn_of_wp Tryz.func88 rfl trivial ?_ rfl;simp only[Tryz.ntmps88,Z7y,Z7N,Z7v,Nat.reduceAdd,Nat.reduceSub,Z7W,Z7X,Z8h,Z82,Z70,Z7x];have d6:=Z6e<|e3.grown<|WF hW bt;have c7:=Z6e<|a8 0 w W d9 hW;have b9:=Z6e h0;clear h0;gi_wp2
 gi_loopw [4] (λp wr=>∃(a t f:Nat) (pre:List Ob),p=.int .i64 a/\Hid (h pre wr/\K t wr/\Stat6 ws g o cap sv bw bg base z bt gv wr/\I ws<f+a/\0<f/\a<=I ws/\I pre<=a/\ZQ ws shs old=Xi ws shs old f a t pre))
  (λp _=>I ws- (intOf p).toNat)
 case atStart=>exact⟨0,0,I ws+1,[],rfl,Z6e ⟨b9.out,c7.out,d6.out,Z0,Z0,Z0,Z1,rfl⟩⟩
 case round=>
  obtain⟨a,t,f,pre,rfl,j⟩:=hrel;have k:=j.out.2.2.1;have a3:=k.tj;have c1:wr.cell? ⟨bw,0,U⟩=J sv:=by rw[Z6j _ _ _ _ _ _ k.py];rfl
  have c2:wr.cell? ⟨bg,0,U⟩=J gv:=by rw[Z6j _ _ _ _ _ _ k.sr];rfl
  have e5:=k.dr.len;clear k;by_cases b3:a<I ws
  .obtain⟨x,hx⟩:∃x,ws[a]?=J x:=⟨_,Z6b b3⟩;obtain rfl:sv=.slice (J ⟨g,o,U⟩) (I ws) cap:=a3.resolve_right (λh=>Z5i);clear a3;have e6:((a:Int)<I ws)=True:=Z7G Z0;have hb:=b1 wr a t x j.out.2.2.1.dr (by have:=j.out.2.2.1.lt;omega) j.out.2.1 hx;cases ho:XZ shs old a t x with
   |none=>
    rw[ho]at hb;have HX:=Z6e hb;clear hb;gi_wp2
    refine⟨trivial,λh=>Z5u,(Z85.2 HX.out).mono ?_⟩;rintro e D ⟨y,rfl⟩;have M:=Z6e y;clear y;gi_wp2
    refine⟨rfl,.inr ⟨_,pre,rfl,⟨3,.inr rfl,rfl,?_⟩,hJ _ _ _ _ j.out.1 M.out<|λr e=>e.symm⟩⟩;obtain⟨_,_,_,hf,Q,_,_,N⟩:=j.out;cases f with
    |zero=>omega
    |succ f=>
     simp_all[Xi]
   |some q=>
    obtain⟨d,t'⟩:=q;rw[ho]at hb;have HX:=Z6e hb;clear hb;obtain⟨a2,B⟩:=Lc ho;gi_wp2
    refine⟨trivial,λh=>Z5u,(Z85.2 HX.out).mono ?_⟩;rintro e D ⟨y,rfl,b2⟩;have M:=Z6e y;have d5:=Z6e b2;have P:=j.out.2.2.1.grown y;have f2:=Z6e P;have e1:∀O,(D.alloc O).cell? ⟨bw,0,U⟩=J (.slice (J ⟨g,o,U⟩) (I ws) cap):=λO=>by
     rw[Z7c _ _ _<|ZL P.py,Z6j _ _ _ _ _ _ P.py];rfl
    have a1:wr.grownBy (D.alloc<|.cells #[.int .i64 a,.int .i64 d.size,.int .i64 d.Z,.bool d.gone,.int .u64 d.target] 71) bt:=WS y<|Z7o _ _ _;have b0:=Z6e<|j.out.2.2.1.grown a1;have hh:=MW (D.alloc<|.cells #[.int .i64 a,.int .i64 d.size,.int .i64 d.Z,.bool d.gone,.int .u64 d.target] 71) ws g o cap b0.out.dr (by have:=b0.out.lt;omega) d a B b3 a2;unfold Wo at hh;rw[B]at hh;have b7:=Z6e a1;have T:=Z6e hh;have H:∀f pre,Xi ws shs old (f+1) a t pre=_:=λf pre=>Z1m ws shs old hx ho (f:=f) (pre:=pre);have X:=Z6e H;clear y b2 P a1 hh H hx;unfold Wo;gi_wp2
    refine⟨trivial,λh=>Z5u,(Z85.2 T.out).mono ?_⟩;rintro e L ⟨rfl,C⟩;have A:wr.grownBy L bt:=WS b7.out<|WF C bt;have S:=Z6e A;have b5:=Z6e C;unfold KP;by_cases Y:(I ws:Int)<d.Y+1+d.size
    .rw[Z6k Y];rw[B]at Y;clear C A;gi_wp2
     refine⟨rfl,.inr ⟨_,pre,rfl,⟨2,.inl rfl,rfl,?_⟩,hJ _ _ _ _ j.out.1 S.out<|λr e=>e.symm⟩⟩;obtain⟨_,_,_,hf,Q,_,_,N⟩:=j.out;obtain⟨f,rfl⟩:∃f',f=f'+1:=⟨f-1,Z0⟩;rw[N,X.out,Z6k Y]
    .rw[Z6h Y];by_cases Z:Xp ((ws.drop<|d.Y.toNat+1).take d.size.toNat) d.gone d.Z 0=xw
     .rw[Z6k Z];rw[B]at Y Z;clear C A;gi_wp2
      refine⟨rfl,.inr ⟨_,pre,rfl,⟨3,.inr rfl,rfl,?_⟩,hJ _ _ _ _ j.out.1 S.out<|λr e=>e.symm⟩⟩;obtain⟨_,_,_,hf,Q,_,_,N⟩:=j.out;obtain⟨f,rfl⟩:∃f',f=f'+1:=⟨f-1,Z0⟩;rw[N,X.out,Z6h Z0];simp_all
     .rw[Z6h Z];rw[B]at Y Z;simp only[Z6p]at Z;have b8:=Z6e<|And.intro Y Z;have a0:=hJ _ _ _ _ j.out.1 A (λr e=>e.symm);have e9:=Z6e a0;have d7:=Z6e<|j.out.2.2.1.grown A;have u:L.heap[xz<|xj D]?=J (.cells #[.int .i64 a,.int .i64 d.size,.int .i64 d.Z,.bool d.gone,.int .u64 d.target] 71 (0,0)):=(C.block _ Z1).trans<|Z6u D _;have b6:=Z6e u;obtain⟨fn,e8,assign,e4,hy,N⟩:=hY pre d L a0 (by have:=j.out.2.2.2.2.2.2.1;omega);unfold Wo at hy;rw[B]at hy;have d0:L.cell? ⟨xz<|xj D,0,U⟩=J (.int .i64 a):=Z5A;have d1:L.cell? ⟨xz<|xj D,1,U⟩=J (.int .i64 d.size):=Z5A;have d2:L.cell? ⟨xz<|xj D,2,U⟩=J (.int .i64 d.Z):=Z5A;have d3:L.cell? ⟨xz<|xj D,3,U⟩=J (.bool d.gone):=Z5A;have d4:L.cell? ⟨xz<|xj D,4,U⟩=J (.int .u64 d.target):=Z5A;clear C A a0 u;gi_wp2
      refine⟨λh=>Z5u,N.mono ?_⟩;rintro e W3 ⟨rfl,a5,F⟩;have c0:=Z6e a5;have f0:=Z6e F;have G:U3 L z≠J (xz<|xj D):=by
       intro e;have e2:z<xz (xj wr):=by have:=j.out.2.2.1.lt.2.2.2;omega
       have:U3 L z=U3 wr z:=by
        unfold U3;rw[Z75 (a:=⟨z,0,U⟩)<|S.out.block z e2 b4]
       rw[this]at e;have:=d8 _ _ j.out.1 _ e;have:=M.out.size;omega
      have R:=F.same _ _ b6.out rfl (by have:=j.out.2.2.1.lt.2.2.2;have:=M.out.size;omega)<|.inr G;have f1:W3.cell? ⟨xz<|xj D,1,U⟩=J (.int .i64 d.size):=by rw[Z6j _ _ _ _ _ _ R];rfl
      have a9:=d7.out.kp F;have a6:K t' L:=a8 _ _ _ d5.out<|((Z6r _ _).alloc (Z6i _) _).trans<|b5.out.mono Z1;have a7:=e0 _ _ _ a6 F;have a4:=Z6e<|And.intro a9 a7;obtain⟨m,hm⟩:∃m:Nat,d.size=m:=⟨d.size.toNat,by have:=(Yq.1 a2).1;omega⟩;rw[hm]at f1;have f6:(m:Int)<=255:=by have:=(Yq.1 a2);omega
      have q1:IntKind.i64.wrap (1+(m:Int))=((1+m:Nat):Int):=Z5r;have q2:IntKind.i64.wrap ((a:Int)+((1+m:Nat):Int))=((a+(1+m):Nat):Int):=Z5r;clear a5 F R a9 a6 a7 G;clear Z;gi_wp2
      obtain⟨_,_,_,hf,Q,f3,f7,N⟩:=j.out;obtain⟨f,rfl⟩:∃f',f=f'+1:=⟨f-1,Z0⟩;rw[X.out,Z6h Z0,Z6h b8.out.2]at N;have f5:a+1+m<=I ws:=Z0;refine⟨⟨a+(1+m),t',f,pre++[d],Z1,Z6e ⟨c0.out,a4.out.2,a4.out.1,Z0,Z0,Z0,Z5j,?_⟩⟩,by grind [intOf]⟩;grind
  .have e7:((a:Int)<I ws)=False:=Z7d Z0
   have HE:Hid<|endS ws shs old K pre wr:=Z6e (by
    obtain⟨_,hK,_,hf,Q,_,_,N⟩:=j.out;refine⟨t,hK,?_⟩;cases f with
    |zero=>omega
    |succ f=>
     simp_all[Xi,Z6X])
   obtain⟨sa,sc,rfl⟩:∃sa sc,sv=.slice sa (I ws) sc:=by
    grind
   clear a3;gi_wp2
   go_end0
   exact .inl ⟨_,pre,rfl,HE.out,j.out.1⟩
end Vm
namespace Vm
open Go Go.Proofs Go.RowKit Go.Shelf
def M0(w:World)(g d:Value)(l:∃a n c,g=.slice a n c)(j:d=.nilFunc\/∃f h,d=.func (.func f) #[] h):
  Calls Tryz.prog 87 #[g,d] w λe o=>e=.returned (.func (.func 88) #[] #[.pointer<|J ⟨xz<|xj w,0,U⟩,.pointer<|J ⟨xz (xj w)+1,0,U⟩])/\
   o=(w.alloc<|.cells #[g] 29).alloc (.cells #[d] 167):=by
 have k:∀(fn:Go.Fn) (first cap:Array Value) (w:World),(Instr.makeFunc fn first cap).run Tryz.prog w=.ok (.func fn first cap) w:=λ_ _ _ _=>rfl;obtain⟨a,n,c,rfl⟩:=l;obtain rfl|⟨f,h,rfl⟩:=j
 .go_enter Tryz.func87,Tryz.ntmps87;go_wp2;exact Z6x (results_tmp rfl _ _ _) rfl ⟨rfl,rfl⟩
 .go_enter Tryz.func87,Tryz.ntmps87;go_wp2;exact Z6x (results_tmp rfl _ _ _) rfl ⟨rfl,rfl⟩
def Og(w:World):Sem.run Tryz.prog (binOp .neq 20 .nilIface .nilIface) w=.ok (.bool xw) w:=by rfl
def Oh(w:World)(T:TypeId)(v:Value):Sem.run Tryz.prog (binOp .neq 20 (.iface T v) .nilIface) w=.ok (.bool xk) w:=by rfl
def Z0U(w:World)(x:Int):Sem.run Tryz.prog (Instr.typeAssert (.iface 166<|.agg #[.int .i64 x]) 20 166 xk) w=.ok (.tuple #[.agg #[.int .i64 x],.bool xk]) w:=by rfl
def IM(n:Nat)(p q:Addr)(w:World):
  CallsDIn Fence.wide n Tryz.prog 86 #[.pointer<|J p,.pointer<|J q] .returning w λe f g=>e=.returned (.tuple #[])/\f=.returning/\g=w:=by
 have j:=Og;refine callsDIn_of_wpSIn Tryz.func86 rfl trivial λa h d=> ?_;simp only[Tryz.ntmps86,Z7y,Z7N,Z7v,Nat.reduceAdd,Nat.reduceSub,Z7W,Z7X,Z8h,Z82,Z70,Z7x];apply wpSIn_seq;apply wpSIn_region;simp[wpOpsSIn,go_sem,recoverD,d,Exit.thenS];refine wpSIn_of_wpIn rfl ?_;gi_wp2
 cases a;simp_all [bodyPostS,results,Tryz.results86]
def IN(n:Nat)(a d:Nat)(x:Int)(w:World)(z l:Value)(f:Boxed w a 67 z)(g:Boxed w d 35 l)(h:a≠d):
  CallsDIn Fence.wide n Tryz.prog 86 #[.pointer<|J ⟨a,0,U⟩,.pointer<|J ⟨d,0,U⟩] (.panicking<|WW x) w λe y j=>
   e=.returned (.tuple #[])/\y=.panicking [{v:=.iface 166<|.agg #[.int .i64 x],recovered:=xk}]/\
   Boxed j a 67 (.slice U 0 0)/\Boxed j d 35 (.int .i64 x)/\(xz (xj w)<=xz (xj j)/\∀k,k<xz (xj w)->k≠a->k≠d->j.heap[k]?=w.heap[k]?)/\j.os=w.os/\j.tape=w.tape/\j.output=w.output:=by
 have C:=Oh;have D:=Z0U;have Q:=(f.alloc<|.cells #[.int .i64 x] 166).cell;have R:=(f.alloc<|.cells #[.int .i64 x] 166).frozen;have S:=(g.alloc<|.cells #[.int .i64 x] 166).cell;have T:=(g.alloc<|.cells #[.int .i64 x] 166).frozen;have p3:=f.cell;have p4:=f.frozen;have W:=g.cell;have X:=g.frozen;have K:=f.lt;have L:=g.lt;have t:¬a=d:=h;have u:¬d=a:=λe=>h e.symm;have M:¬a=xz (xj w):=Z0;have N:¬xz (xj w)=a:=Z0;have O:¬d=xz (xj w):=Z0;have P:¬xz (xj w)=d:=Z0;have o:=Z6e<|And.intro f g;clear f g h;refine callsDIn_of_wpSIn Tryz.func86 rfl trivial λB A r=> ?_;simp only[Tryz.ntmps86,Z7y,Z7N,Z7v,Nat.reduceAdd,Nat.reduceSub,Z7W,Z7X,Z8h,Z82,Z70,Z7x];apply wpSIn_seq;apply wpSIn_region;simp[wpOpsSIn,go_sem,recoverD,r,WW,Exit.thenS];refine wpSIn_of_wpIn rfl ?_;gi_wp2
 gi_region
 all_goals gi_wp2
 obtain⟨f,g⟩:=o.out;have p:Boxed ((w.setCell ⟨a,0,U⟩<|.slice U 0 0).setCell ⟨d,0,U⟩<|.int .i64 x) a 67<|.slice U 0 0:=(Z6w _ ⟨d,0,U⟩ _ a t).trans<|f.set _;have q:Boxed ((w.setCell ⟨a,0,U⟩<|.slice U 0 0).setCell ⟨d,0,U⟩<|.int .i64 x) d 35<|.int .i64 x:=Boxed.set _ (show Boxed (w.setCell ⟨a,0,U⟩<|.slice U 0 0) d 35 l from(Z6w _ ⟨a,0,U⟩ _ d u).trans g);refine⟨rfl,_,rfl,_,by simp[results,Tryz.results86],rfl,rfl,p.alloc _,q.alloc _,⟨?_,λk F G H=> ?_⟩,rfl,rfl,rfl⟩;simp;show(World.alloc _ _).heap[k]?=_;grind [Below.heap_alloc,World.setCell,Below.heap_setCell]
end Vm
namespace Vm
open Go Go.Proofs Go.RowKit Go.Shelf
def UW(a:Ob):List Value:=[.int .i64 a.Y,.int .i64 a.size,.int .i64 a.Z,.bool a.gone,.int .u64 a.target]
def Wu(l:List Ob):List Value:=l.flatMap UW
def Ow l x:Wu (l++[x])=Wu l++UW x:=by simp[Wu]
structure WIv (w:World) (bt:Option Nat) (pre:List Ob) (W:World):Prop where
 row:∃v,Boxed W (xz<|xj w) 67 v/\W.ownsRow (xz (xj w)+4) 71 5 v (I pre) (Wu pre)
 e:Boxed W (xz (xj w)+1) 35<|.int .i64 0
 gr:w.grownBy W bt
 size:xz (xj w)+4<=xz (xj W)
def Uk{w X Y:World}{bt row}(h:w.grownBy X bt)(k:X.grownBy Y row)(f:∀r,row=J r->J r=bt\/xz (xj w)<=r):w.grownBy Y bt:=
 ⟨k.os.trans h.os,k.tape.trans h.tape,k.output.trans h.output,Z6H h.size k.size,λi a d=>
  (k.block i (Z6o a h.size) Z5h).trans (h.block i a d)⟩
theorem LK{W b t v}(h:Boxed W b t v):U3 W b=v.ownBlock:=by
 unfold U3;rw[h.cell];rfl
def WIv.rf{w bt pre W}(h:WIv w bt pre W):Az (xz<|xj w) W:=by
 let⟨v,f,d⟩:=h.row;intro k a;rw[LK f]at a;exact(d.lt k a).2
def WIv.own{w bt}(u:∀r,bt=J r->r<xz (xj w)):OwnP bt (xz (xj w)+4)<|WIv w bt:=by
 intro s X Y row h d p;have y:∀k,xz (xj w)<=k->k<xz (xj w)+4->J k≠row:=by
  intro k t A e;obtain j|⟨j,_⟩:=p k e.symm;grind;omega
 let⟨v,z,a⟩:=h.row;refine⟨⟨v,z.kept d Z5i,a.kept d ?_⟩,h.e.kept d Z5i,Uk h.gr d λr e=>Z5h,Z6H h.size d.size⟩;cases l:v.ownBlock with
 |none=>simp
 |some b=>
  refine .inr λe=> ?_;have t:=a.lt b l;obtain j|⟨_,o,n,x⟩:=p b e.symm;grind;obtain⟨rfl,_⟩|⟨g,cap,q,rfl,_,f,_⟩:=a.2;simp[Value.ownBlock]at l;obtain rfl:g=b:=by grind [Value.ownBlock]
  rw[f]at n;cases n;cases x
def WIv.appended{w W w1:World}{bt:Option Nat}{pre:List Ob}{x:Ob}{v v':Value}{tmp:Obj}(C:∀r,bt=J r->r<xz (xj w))(h:WIv w bt pre W)(A:Boxed W (xz<|xj w) 67 v)
  (g:W.ownsRow (xz (xj w)+4) 71 5 v (I pre)<|Wu pre) (d:w1.ownsRow (xz (xj w)+4) 71 5 v' (I pre+1)<|Wu pre++UW x)
  (a:(W.alloc tmp).grownBy w1 v.ownBlock) (f:v'.ownBlock=v.ownBlock\/v'.ownBlock=J (xz<|xj<|W.alloc tmp)):
  Boxed w1 (xz<|xj w) 67 v/\KeepsFrom (xz (xj w)+4) W (w1.setCell ⟨xz<|xj w,0,U⟩ v')/\KpW (xz<|xj w) (xz (xj w)+4) W (w1.setCell ⟨xz<|xj w,0,U⟩ v')/\WIv w bt (pre++[x]) (w1.setCell ⟨xz<|xj w,0,U⟩ v'):=by
 have u:=h.size;obtain⟨y,l,F,j,B⟩:=A.appended Z5q (SR g (B':=xz<|xj w) Z0) Z0 (Z6i _) (SR d (B':=xz<|xj w) Z0) a;have z:∀b,v.ownBlock=J b->xz (xj w)+4<=b:=λb p=>(g.lt b p).1
 have t:(w1.setCell ⟨xz<|xj w,0,U⟩ v').ownsRow (xz (xj w)+4) 71 5 v' (I pre+1)<|Wu pre++UW x:=d.kept (Z8o w1 (xz<|xj w) v') (by
  cases p:v'.ownBlock with
  |none=>simp
  |some b=>exact .inr λe=>by have G:=(d.lt b p).1;grind)
 refine⟨y,j.from _,⟨j.size,λk o n H D K=> ?_,λk n e=> ?_⟩,⟨v',l,?_⟩,?_,?_,Z6H u j.size⟩;rw[Z6w _ _ _ _ D,a.block k (by have:=ZL n;simp;omega) (λe=> ?_),Z6m _ _ _<|ZL n,n];grind [LK,trans];rw[LK l]at e;rw[LK A];obtain f|f:=f;simp_all;rw[f]at e;simp at e;omega;simp_all[Z6L,Ow];have q:Boxed w1 (xz (xj w)+1) 35<|.int .i64 0:=(h.e.alloc tmp).kept a (λe=>Z5h);exact(Z6w _ _ _ _ Z1).trans q;refine Uk (Uk (Uk h.gr (Z7o W tmp U) Z1) a λr e=>.inr ?_) (Z8o w1 (xz<|xj w) v') λr e=>.inr ?_;grind;simp_all
def KpW.alloc{a base W}o(d:a<xz (xj W)):KpW a base W<|W.alloc o:=by
 refine⟨Z1,λk h f _ _ _=>(Z6m _ _ _ Z5h).trans f,λk _ g=> ?_⟩;simp_all[U3,Z7c]
end Vm
namespace Vm
open Go Go.Proofs Go.RowKit Go.Shelf
attribute [local go_sem] Oper.semAt_some
def N0:(Tryz.prog.info? 71).map (λi=>(i.zero,i.size,i.bytes))=J (J<|.agg #[.int .i64 0,.int .i64 0,.int .i64 0,.bool xw,.int .u64 0],5,40):=Z2
def unO:Tryz.prog.underlying 67=J (.slice 71):=Z2
def IP(w:World)a b c d e t:∀j u,[a,b,c,d,e][j]?=J u->(w.alloc<|.cells #[a,b,c,d,e] t).cell? ((⟨xz<|xj w,0,U⟩:Addr).add j)=J u:=by
 intro j u h;have:=Z6j _ _ j _ _ _<|Z6u w<|.cells #[a,b,c,d,e] t;grind [Addr.add]
def AD(w:World)(ws:List Int)(shs:List<|Int×Int)(old:Bool)(bt:Option Nat)(K:Nat->World->Prop)(e:Ending)(W:World):Prop:=
 ∃v n a,e=.returned (.tuple #[v,.int .i64 n])/\w.grownBy W bt/\W.ownsRow (xz (xj w)+4) 71 5 v (I a) (Wu a)/\((n=0/\endS ws shs old K a W)\/((n=2\/n=3)/\a=[]/\ZQ ws shs old=([],n)))
def FV{w:World}{ws:List Int}{g o cap:Nat}{bt:Option Nat}{p j:Value}{shs:List (Int×Int)}{old:Bool}{K:Nat->World->Prop}(hw:Words w ws g o cap)
  (b5:p=.slice (J ⟨g,o,U⟩) (I ws) cap\/(ws=[]/\∃a c,p=.slice a 0 c)) (hg:(ws≠[]->g<xz (xj w))/\g<xz (xj w)+4/\g≠xz (xj w)) (d6:j=.nilFunc\/∃f vs,j=.func (.func f) #[] vs)
  (a0:∀r,bt=J r->r<xz (xj w)) (d5:J g≠bt) (a6:Kh ws g o cap j shs old bt K) (b6:K 0 w)
  (z:∀t A B row,K t A->A.grownBy B row->(∀r,row=J r->xz (xj w)<=r)->K t B)
  (b8:∀bl base t A B,xz (xj w)<=bl->xz (xj w)<=base->K t A->KpW bl base A B->K t B):
  Calls Tryz.prog 84 #[p,j] w (AD w ws shs old bt K):=by
 refine(Z85 (n:=5)).1 ?_;have f9:∀(fn:Go.Fn) (first cap:Array Value) (w:World),(Instr.makeFunc fn first cap).run Tryz.prog w=.ok (.func fn first cap) w:=λ_ _ _ _=>rfl;have e0:∃a n c,p=.slice a n c:=by
  obtain rfl|⟨_,a,c,rfl⟩:=b5;simp;simp
 refine callsIn_of_wp_marks Tryz.func84 rfl trivial ?_ rfl;simp only[Tryz.ntmps84,Z7y,Z7N,Z7v,Nat.reduceAdd,Nat.reduceSub,Z7W,Z7X,Z8h,Z82,Z70,Z7x];have he:=λW=>M0 W p j e0 d6;gi_wp2
 refine⟨trivial,(Z85.2<|he _).mono ?_⟩;rintro e w1 ⟨rfl,rfl⟩;gi_wp2
 have a2:∀b:Nat,b<xz (xj w)->((((w.alloc<|Obj.cells #[.slice U 0 0] 67).alloc<|.cells #[.int .i64 0] 35).alloc<|.cells #[p] 29).alloc<|.cells #[j] 167).heap[b]?=w.heap[b]? :=λb hb=>by
  grind [Below.heap_alloc]
 have b0:Boxed ((((w.alloc<|Obj.cells #[.slice U 0 0] 67).alloc<|.cells #[.int .i64 0] 35).alloc<|.cells #[p] 29).alloc<|.cells #[j] 167) (xz<|xj w) 67<|.slice U 0 0:=(((Boxed.new w _ _).alloc _).alloc _).alloc _;have b1:Boxed ((((w.alloc<|Obj.cells #[.slice U 0 0] 67).alloc<|.cells #[.int .i64 0] 35).alloc<|.cells #[p] 29).alloc<|.cells #[j] 167) (xz (xj w)+1) 35<|.int .i64 0:=by
  have:=((Boxed.new (w.alloc<|Obj.cells #[.slice U 0 0] 67) 35<|.int .i64 0).alloc<|.cells #[p] 29).alloc<|.cells #[j] 167;rwa[Z7V]at this
 have b2:Boxed ((((w.alloc<|Obj.cells #[.slice U 0 0] 67).alloc<|.cells #[.int .i64 0] 35).alloc<|.cells #[p] 29).alloc<|.cells #[j] 167) (xz (xj w)+2) 29 p:=by
  have:=(Boxed.new ((w.alloc<|Obj.cells #[.slice U 0 0] 67).alloc<|.cells #[.int .i64 0] 35) 29 p).alloc<|.cells #[j] 167;simp_all
 have b3:Boxed ((((w.alloc<|Obj.cells #[.slice U 0 0] 67).alloc<|.cells #[.int .i64 0] 35).alloc<|.cells #[p] 29).alloc<|.cells #[j] 167) (xz (xj w)+3) 167 j:=by
  have:=Boxed.new (((w.alloc<|Obj.cells #[.slice U 0 0] 67).alloc<|.cells #[.int .i64 0] 35).alloc<|.cells #[p] 29) 167 j;simp_all
 have L:w.grownBy ((((w.alloc<|Obj.cells #[.slice U 0 0] 67).alloc<|.cells #[.int .i64 0] 35).alloc<|.cells #[p] 29).alloc<|.cells #[j] 167) bt:=⟨rfl,rfl,rfl,Z5j,λk hk _=>a2 k hk⟩;have P:xz (xj<|(((w.alloc<|Obj.cells #[.slice U 0 0] 67).alloc<|.cells #[.int .i64 0] 35).alloc<|.cells #[p] 29).alloc<|.cells #[j] 167)=xz (xj w)+4:=Z1;generalize f7:(((w.alloc<|Obj.cells #[.slice U 0 0] 67).alloc<|.cells #[.int .i64 0] 35).alloc<|.cells #[p] 29).alloc (.cells #[j] 167)=W0 at*;have e7:Stat6 ws g o cap p (xz (xj w)+2) (xz (xj w)+3) (xz (xj w)+4) (xz<|xj w) bt j W0:=by
  refine⟨⟨λi x F=> ?_,hw.le,hw.cap,hw.len,hw.u64⟩,b5,b2,b3,λhn=> ?_,⟨Z0,Z0,Z0,Z0⟩,⟨Z0,Z0,Z0⟩,d5,?_,?_⟩;rw[<-hw.Y i x F];grind [World.cell?_of_block];obtain⟨x,F⟩:∃x,ws[0]?=J x:=by cases ws with|nil=>simp_all|cons x l=>simp
  have:=hw.Y 0 x F;rw[a2 g<|hg.1 hn];unfold World.cell? at this;cases hh:w.heap[g]? with
  |none=>simp_all
  |some ob=>
   refine⟨ob,rfl,?_⟩;grind [Obj.isCells]
  grind;grind
 have a5:K 0 W0:=z 0 w W0 U b6 ⟨L.os,L.tape,L.output,L.size,λk hk _=>a2 k hk⟩ Z1;have b4:=IZ 4 e7 Z0 (λe=>Z5h) a6 a5 (λt A B hA O=>z t A B U hA ⟨O.os,O.tape,O.output,O.size,λk hk _=>O.block k hk⟩ Z1) (λt A B hA O=>b8 _ _ t A B (Z6i _) Z0 hA O)
 refine Z1u rfl Z0 (gf:=88) (lb:=#[.pointer<|J ⟨xz (xj w)+2,0,U⟩,.pointer<|J ⟨xz (xj w)+3,0,U⟩]) rfl trivial (enters_of Tryz.func88 Z2 rfl)
  b4 (λr e=>Z5h) KpW.trans (λW l o o' h1 h2 h3 _=>KpW.put o' h2 h3 Z0) (Z6r _ _) (λ_=>rfl)
  (WIv w bt) (P▸WIv.own a0) (λpre W h=>h.rf) ⟨⟨_,b0,Z7e _ _ _ _⟩,b1,L,Z0⟩ ?hS
  (λx a' W=>∃y,xz (xj w)+4<=y/\W.heap[y]?=J (.cells #[.int .i64 x.Y,.int .i64 x.size,.int .i64 x.Z,.bool x.gone,.int .u64 x.target] 71 (0,0))/\
   a'= {tmps:=#[p,j,xy,xy,.pointer<|J ⟨xz<|xj w,0,U⟩,.pointer<|J ⟨xz (xj w)+1,0,U⟩,.pointer<|J ⟨y,0,U⟩,
    .func (.func 86) #[] #[.pointer<|J ⟨xz<|xj w,0,U⟩,.pointer<|J ⟨xz (xj w)+1,0,U⟩],p,j,.func (.func 88) #[] #[.pointer<|J ⟨xz (xj w)+2,0,U⟩,.pointer<|J ⟨xz (xj w)+3,0,U⟩],Wo x,xy,xy,xy,xy,xy],defers:=[]})
  ?hAx ?assign ?body ?done ?panic
 case hS=>
  rintro u X Y row ⟨t,hK,hR⟩ M d;exact⟨t,z t X Y row hK M λr e=>(d r e).elim (λe2=>by cases e2) (λe2=>Z0),hR⟩
 case hAx=>
  rintro x a' s X Y row ⟨y,O,F,ha⟩ M d;refine⟨y,O,(M.block y (ZL F) λe=> ?_).trans F,ha⟩;obtain e2|⟨_,o2,h2,h3⟩:=d y e.symm;cases e2;rw[F]at h2;cases h2;cases h3
 case assign=>
  rintro l pre x W K2 q b7;simp only[List.zip_cons_cons,Array.zip,Wo];gi_wp2
  exact b7 _ _ ((KeepsOthers.alloc W _).from _) (KpW.alloc _ (by have:=q.size;omega)) ((WIv.own a0).alloc _ q) ⟨xz<|xj W,q.size,Z6u W _,rfl⟩
 case body=>
  rintro l pre x a' W q ⟨y,f6,F,rfl⟩ a8;obtain⟨v,Q,d⟩:=q.row;obtain⟨i0,d7,e8,e9,f2⟩:=info_parts N0;obtain⟨G,H,rfl⟩:=ZV d;have c1:=Q.cell;have c2:=Q.frozen;have d0:W.cell? ⟨y,0,U⟩=J (.int .i64 x.Y):=Z5H;have d1:W.cell? ⟨y,1,U⟩=J (.int .i64 x.size):=Z5H;have d2:W.cell? ⟨y,2,U⟩=J (.int .i64 x.Z):=Z5H;have d3:W.cell? ⟨y,3,U⟩=J (.bool x.gone):=Z5H;have d4:W.cell? ⟨y,4,U⟩=J (.int .u64 x.target):=Z5H;have g0:I pre<=1000000:=Z6H (Z9N a8) hw.len;have f5:=q.size;have HA:=λtmp w1 v'=>WIv.appended (W:=W) (w1:=w1) (x:=x) (v':=v') (tmp:=tmp) a0 q Q d;gi_wp2_with (gi_at_builtin;refine wpListIn_append_own_at _ rfl _ _ 67 rfl (xz (xj w)+4) 71 i0 _ 5 40 unO d7 e8 e9 f2 rfl Z5q _ _ _ rfl (d.alloc _) ⟨xz<|xj W,0,U⟩ 1 1 (UW x) rfl rfl (IP _ _ _ _ _ _ _) (by simp[UW,Value.oneCell']) (by grind [maxLen]) Z0 Z5j ?_;intro v' w1 N a1 _ c0;obtain⟨g',f4,rfl⟩:=ownsRow_succ N;obtain⟨e1,e2,e3,e4⟩:=HA _ _ _ N a1 c0;have e5:=e1.cell;have e6:=e1.frozen)
  rw[P];exact⟨e2,e3,e4⟩
 case done=>
  rintro D u W hD hS q Z;obtain⟨v,Q,d⟩:=q.row;obtain⟨G,H,rfl⟩:=ZV d;have c1:=Q.cell;have c2:=Q.frozen;have c3:=q.e.cell;have c4:=q.e.frozen;rw[P]at hD;gi_wp2
  have a4:((W.setCell ⟨xz<|xj w,0,U⟩<|.slice G (I u) H).setCell ⟨xz (xj w)+1,0,U⟩<|.int .i64 0).heap[D]?=J (.deferred<|J []):=by
   rw[Z6w _ _ _ _ Z5h,Z6w _ _ _ _ Z5h];exact Z
  have f0:Boxed ((W.setCell ⟨xz<|xj w,0,U⟩<|.slice G (I u) H).setCell ⟨xz (xj w)+1,0,U⟩<|.int .i64 0) (xz<|xj w) 67<|.slice G (I u) H:=
   (Z6w _ _ _ _ Z1).trans (Q.set _)
  have f1:Boxed ((W.setCell ⟨xz<|xj w,0,U⟩<|.slice G (I u) H).setCell ⟨xz (xj w)+1,0,U⟩<|.int .i64 0) (xz (xj w)+1) 35<|.int .i64 0:=
   Boxed.set _ (show Boxed (W.setCell ⟨xz<|xj w,0,U⟩<|.slice G (I u) H) (xz (xj w)+1) 35 (.int .i64 0)from(Z6w _ _ _ _ Z1).trans q.e)
  have g1:=Z8o W (xz<|xj w)<|.slice G (I u) H;have g2:=Z8o (W.setCell ⟨xz<|xj w,0,U⟩<|.slice G (I u) H) (xz (xj w)+1)<|.int .i64 0;have R:=d.lt
  have r2:=(d.kept g1 (by
   cases hb:(Value.slice G (I u) H).ownBlock with
   |none=>simp
   |some b=>exact .inr λe=>by have:=(R b hb).1;grind)).kept g2 (by
   cases hb:(Value.slice G (I u) H).ownBlock with
   |none=>simp
   |some b=>exact .inr λe=>by have:=(R b hb).1;grind)
  generalize f8:(W.setCell ⟨xz<|xj w,0,U⟩<|.slice G (I u) H).setCell ⟨xz (xj w)+1,0,U⟩ (.int .i64 0)=W2 at*;have g3:=Z8G W2 D<|.deferred U;have S:Boxed (W2.putObj D<|.deferred U) (xz<|xj w) 67<|.slice G (I u) H:=(Z6P Z0).trans f0;have T:Boxed (W2.putObj D<|.deferred U) (xz (xj w)+1) 35<|.int .i64 0:=(Z6P Z0).trans f1;have k0:=S.cell;have k1:=T.cell;refine⟨Z1,.inl ⟨D,_,rfl,Z8T a4,?_⟩⟩;refine⟨Z1,.inr ⟨λh=>Z5u,.func 86,_,86, #[.pointer<|J ⟨xz<|xj w,0,U⟩,.pointer<|J ⟨xz (xj w)+1,0,U⟩],rfl,by rfl,λ_ _=>trivial,?_⟩⟩;refine(IM _ _ _ _).mono ?_;rintro e u' f3 ⟨rfl,rfl,rfl⟩;refine⟨.tuple #[.slice G (I u) H,.int .i64 0],by simp[results,Tryz.results84,go_sem,k0,k1],?_⟩;obtain⟨t,hK,hR⟩:=hS;refine⟨_,0,u,rfl,Uk (Uk (Uk q.gr g1 λr e=>.inr ?_) g2 λr e=>.inr ?_) g3 λr e=>.inr ?_,ownsRow_putObj r2 _ a4 rfl,.inl ⟨rfl,t,z t _ _ _ (z t _ _ _ (z t _ _ _ hK g1 λr e=> ?_) g2 λr e=> ?_) g3 λr e=> ?_,hR⟩⟩;all_goals (grind)
 case panic=>
  rintro D chain pre W hD ⟨e,c7,rfl,b9⟩ q Z;rw[P]at hD;obtain⟨v,Q,d⟩:=q.row;have g3:=Z8G W D<|.deferred U;have S:Boxed (W.putObj D<|.deferred U) (xz<|xj w) 67 v:=(Z6P Z0).trans Q;have T:Boxed (W.putObj D<|.deferred U) (xz (xj w)+1) 35<|.int .i64 0:=(Z6P Z0).trans q.e;have C:w.grownBy (W.putObj D<|.deferred U) bt:=Uk q.gr g3 λr e=>.inr Z5h;refine⟨Z1,.inl ⟨D,_,rfl,Z8T Z,?_⟩⟩;refine⟨Z1,.inr ⟨λh=>Z5u,.func 86,_,86, #[.pointer<|J ⟨xz<|xj w,0,U⟩,.pointer<|J ⟨xz (xj w)+1,0,U⟩],rfl,by rfl,λ_ _=>trivial,?_⟩⟩;refine(IN _ (xz<|xj w) (xz (xj w)+1) e _ _ _ S T Z0).mono ?_;rintro e' u' f3 ⟨rfl,rfl,h0,h1,⟨d9,hk⟩,d8,a3,a9⟩;have k0:=h0.cell;have k1:=h1.cell;refine⟨.tuple #[.slice U 0 0,.int .i64 e],by simp[results,Tryz.results84,go_sem,k0,k1],?_⟩;refine⟨_,e,[],rfl,⟨d8.trans C.os,a3.trans C.tape,a9.trans C.output,Z6H C.size d9,λk a7 hn=> ?_⟩,Z7e _ _ _ _,.inr ⟨c7,rfl,b9⟩⟩;exact(hk k (Z6o a7 C.size) Z0 Z0).trans (C.block k a7 hn)
end Vm
namespace Vm
open Go Go.Proofs Go.RowKit Go.Shelf
theorem EJ{w G k n v}(r:Rd w G (.int k n) v):v=.int k n:=by cases r;rfl
def FY{w G ws v}(r:Rd w G (.sl<|ws.map vu) v)(B:∀b,G b->b<xz (xj w))(u:I ws<=1000000)(y:∀x∈ws,Zy x)q:
  ∃g o cap,Words w ws g o cap/\(v=.slice (J ⟨g,o,U⟩) (I ws) cap\/(ws=[]/\∃a c,v=.slice a 0 c))/\((ws≠[]->g<xz (xj w))/\(g<(xz<|xj w)\/g=q)):=by
 generalize p:ws.map vu=L at r;cases r with
 |nil a cap C=>
  have:ws=[]:=Z5i;subst this;exact⟨q,0,0,⟨Z1,Z1,Z5h,Z1,Z1⟩,Z1,Z1,.inr rfl⟩
 |sl _ b o cap k F d l A f h n=>
  subst p;simp only[Z6D]at d h⊢;refine⟨b,o,cap,⟨λi x z=> ?_,d,l,u,y⟩,.inl rfl,Z5i,Z5i⟩;have j:(ws.map vu)[i]?=J (vu x):=by rw[Z6G,z];rfl
  have t:k=1:=((f _<|Z6n j).1).symm;subst t;have D:i<I ws:=Z5h;rw[h i Z0];have:=n i (vu x) (by have:=UO f j 0 Z0;simp_all);rw[EJ this]
def Z0u{w G shs v}(r:Rd w G (.sl<|shs.map XR) v)(q:∀b,G b->b<xz (xj w)):
  (∃g o cap,v=.slice (J ⟨g,o,U⟩) (I shs) cap/\I shs<=cap/\cap<=maxLen/\g<xz (xj w)/\∀i x,shs[i]?=J x->w.cell? ⟨g,o+i*2,U⟩=J (.int .i64 x.1)/\w.cell? ⟨g,o+i*2+1,U⟩=J (.int .i64 x.2))\/
  (∃a cap,v=.slice a 0 cap/\shs=[]):=by
 generalize t:shs.map XR=L at r;cases r with
 |nil a cap A=>
  simp_all
 |sl _ b o cap k D h l n d p j=>
  subst t;simp only[Z6D]at h p⊢;refine .inl ⟨b,o,cap,rfl,h,l,q b n,λi x u=> ?_⟩;have f:(shs.map XR)[i]?=J (XR x):=by rw[Z6G,u];rfl
  have C:k=2:=((d _<|Z6n f).1).symm;have B:i<I shs:=Z5h;have y:=j (i*2) (vi x.1) (by have:=UO d f 0 Z0;simp_all);have z:=j (i*2+1) (vi x.2) (by have:=UO d f 1 Z0;simp_all);grind [EJ,Nat.add_assoc]
def D1{w G}:∀l i c,(flat<|l.map ZU)[i]?=J c->Rd w G c ((Wu l).getD i xy)
 | [],i,c,h=>Z5i
 |x::l,i,c,h=>by
  rw[Z6R,TV]at h;have e:Wu (x::l)=UW x++Wu l:=by simp[Wu]
  by_cases d:i<5
  match i,d with
  |0,_=>simp at h;subst h;exact .int _ _
  |1,_=>simp at h;subst h;exact .int _ _
  |2,_=>simp at h;subst h;exact .int _ _
  |3,_=>simp at h;subst h;exact .bool _
  |4,_=>simp at h;subst h;exact .int _ _
  have a:(flat<|l.map ZU)[i-5]?=J c:=by
   rw[Z6v Z5i]at h;simpa[ZU,V.cells]using h
  have:=D1 (w:=w) (G:=G) l _ c a;have f:(UW x++Wu l).getD i xy=(Wu l).getD (i-5) xy:=by
   simp[List.getD_eq_getElem?_getD];rw[Z6v (by grind [UW])];simp[UW]
  simp_all
def Ox(l:List Ob):∀x∈l.map ZU,V.ah 5 x:=by
 intro x a;obtain⟨o,_,rfl⟩:=Z6F.1 a;exact⟨rfl,Z1⟩
def D2{w G B e v l}(h:w.ownsRow B e 5 v (I l)<|Wu l)(q:∀c,B<=c->c<xz (xj w)->G c):Rd w G (.sl<|l.map ZU) v:=by
 have a:=h.1;obtain⟨rfl,p⟩|⟨g,cap,j,rfl,r,t,o,d,_⟩:=h.2;have:l=[]:=Z5i;subst this;exact .nil _ _ Z5h
 have:=Rd.sl (w:=w) (G:=G) _ g 0 cap 5 (λi=>(Wu l).getD i xy) Z5i d Z5h (Ox l) (λi n=>by
   have f:i< I (Wu l):=by rw[a];simpa using n
   rw[Z6V,h.cellAt i Z0];simp[f]) (λi c k=>D1 l i c k)
 simp_all
def Z1n{ws shs old K n xs W}(a:shs=[])(h:(n=0/\endS ws shs old K xs W)\/((n=2\/n=3)/\xs=[]/\ZQ ws shs old=([],n))):ZQ ws shs old=(xs,n):=by
 obtain⟨rfl,t,_,h⟩|⟨_,rfl,h⟩:=h;simp_all;exact h
def zC:Sl:=by
 intro Z P Q;refine⟨Z2,λw G R M p q=> ?_⟩;have z:=q 0 _ rfl;obtain⟨⟨l⟩⟩:=R;simp at p;rename_i v0 l;cases l with
 |cons _ _=>simp at p
 |nil=>
  simp at z;obtain⟨g,o,cap,D,k,x,O⟩:=FY z M P Q<|xz (xj w)+1;have C:=FV (w:=w) (shs:=[]) (old:=xw) (bt:=U) (K:=λt _=>t=0) D k ⟨x,Z0,Z0⟩ (.inl rfl) Z1 Z1 Hb rfl (λt A B row h _ _=>h) (λS base t A B _ _ h _=>h);obtain⟨W,X,sc,rfl⟩:∃a n c,v0=.slice a n c:=by
   obtain rfl|⟨_,a,c,rfl⟩:=k;simp;simp
  have F:=Z6e C;clear C D k z q;go_enter Tryz.func72,Tryz.ntmps72;go_wp2_with (go_at_call 84;refine F.out.mono ?_;rintro e Y ⟨v,n,xs,rfl,f,d,u⟩;have H:=Z6e<|And.intro f<|And.intro d u;clear f d u)
  obtain⟨f,d,u⟩:=H.out;have N:=Z1n rfl u;refine Z6x (v:=.tuple #[v,.int .i64 n]) (by simp[results,Tryz.results72,go_sem]) rfl ⟨_,rfl,(Z6r _ w).grown f (Z6i _) (λj e=>by cases e),?_⟩;rw[N];refine .am _ _ rfl ?_;intro i y r
  match i,r with
  |0,r=>cases r;exact D2 d λc T L=>.inr ⟨Z0,L⟩
  |1,r=>cases r;exact .int _ _
def KpW.cell{l base A B}(h:KpW l base A B){k i c}(d:A.cell? ⟨k,i,U⟩=J c)(o:k<base)(n:k≠l):B.cell? ⟨k,i,U⟩=J c:=by
 unfold World.cell? at d;cases f:A.heap[k]? with
 |none=>simp_all
 |some j=>
  have g:j.isCells=xk:=by
   rw[f]at d;cases j<;>simp_all [Obj.isCells]
  rw[<-d];exact Z75 (a:=⟨k,i,U⟩)<|(h.same k j f g n Z0).trans f.symm
def KOld.grown{shs bt a t n v A B row}(h:KOld shs bt a v t A)(d:A.grownBy B row)(p:bt<n)(l:a<n)(u:shs≠[]->∀g o cap,v=.slice (J ⟨g,o,U⟩) (I shs) cap->g<n)(q:∀r,row=J r->n<=r):KOld shs bt a v t B:=by
 let⟨f,j,k⟩:=h;exact⟨(d.block _ Z5h Z5h).trans f,j.grown d Z5h Z5h,k⟩
def KOld.kp{shs bt d t n j base v A B}(h:KOld shs bt d v t A)(a:KpW j base A B)(u:bt<n)(r:d<n)(w:shs≠[]->∀g o cap,v=.slice (J ⟨g,o,U⟩) (I shs) cap->g<n)(F:n<=j)(h2:n<=base):KOld shs bt d v t B:=by
 let⟨y,⟨z,C⟩,D⟩:=h;refine⟨a.same _ _ y rfl Z0 Z0,⟨a.same _ _ z rfl Z0 Z0,?_⟩,D⟩;obtain⟨g,o,cap,rfl,l,p,q,f⟩|h:=C;refine .inl ⟨g,o,cap,rfl,l,p,Z6o q a.size,λi x k=> ?_⟩;have:=w (λe=>Z5i) _ _ _ rfl;exact⟨a.cell (f i x k).1 Z0 Z0,a.cell (f i x k).2 Z0 Z0⟩;simp_all
def Words.oc{w W ws g o cap}(h:Words w ws g o cap)(f:ws≠[]->g<xz (xj w))(a:Below (xz<|xj w) w W):Words W ws g o cap:=
 ⟨λi x d=>by rw[a.cell (p:=⟨g,o+i,U⟩) Z5h];exact h.Y i x d,h.le,h.cap,h.len,h.u64⟩
def zB:Sm:=by
 intro D d hl a7 hu b2;refine⟨Z2,λw G vs hG O Q=> ?_⟩;have r0:=Q 0 _ rfl;have r1:=Q 1 _ rfl;obtain⟨⟨l⟩⟩:=vs;simp at O;rename_i v0 l;cases l with
 |nil=>simp at O
 |cons v1 l=>
 cases l with
 |cons _ _=>simp at O
 |nil=>
  simp at r0 r1;obtain⟨g,o,cap,hw,N,S,a0⟩:=FY r0 hG hl hu<|xz (xj w)+3;have P:=Z0u r1 hG;obtain⟨sa,sn,sc,rfl⟩:∃a n c,v0=.slice a n c:=by
   obtain rfl|⟨_,a,c,rfl⟩:=N;simp;simp
  obtain⟨q,u,rfl⟩:∃a c,v1=.slice a (I d) c:=by
   grind
  have b0:((w.alloc<|.cells #[.slice q (I d) u] 155).alloc<|.cells #[.int .i64 0] 3).heap[xz<|xj w]?=J (.cells #[.slice q (I d) u] 155 (0,0)):=(Z6m _ _ _ Z1).trans<|Z6u w _;have b1:((w.alloc<|.cells #[.slice q (I d) u] 155).alloc<|.cells #[.int .i64 0] 3).heap[xz (xj w)+1]?=J (.cells #[.int .i64 0] 3 (0,0)):=by
   have:=Z6u (w.alloc<|.cells #[.slice q (I d) u] 155)<|.cells #[.int .i64 0] 3;simp_all
  have C:Below (xz<|xj w) w<|(w.alloc<|.cells #[.slice q (I d) u] 155).alloc<|.cells #[.int .i64 0] 3:=((Z6r _ w).alloc (Z6i _) _).alloc Z1 _;have M:xz (xj<|(w.alloc<|.cells #[.slice q (I d) u] 155).alloc<|.cells #[.int .i64 0] 3)=xz (xj w)+2:=Z1;have a5:d≠[]->∀g o cap,Value.slice q (I d) u=.slice (J ⟨g,o,U⟩) (I d) cap->g<xz (xj w):=by
   intro Z g o cap e;obtain⟨X,o1,c1,e1,_,_,h4,_⟩|⟨_,_,_,h⟩:=P;simp_all;simp_all
  have Y:Calls Tryz.prog 84 #[.slice sa sn sc,.func (.func 85) #[] #[.pointer<|J ⟨xz (xj w)+1,0,U⟩,.pointer<|J ⟨xz<|xj w,0,U⟩]] ((w.alloc<|.cells #[.slice q (I d) u] 155).alloc<|.cells #[.int .i64 0] 3)
    (AD ((w.alloc<|.cells #[.slice q (I d) u] 155).alloc<|.cells #[.int .i64 0] 3) D d xk (J<|xz (xj w)+1)<|KOld d (xz (xj w)+1) (xz<|xj w)<|.slice q (I d) u):=by
   generalize a8:(w.alloc<|.cells #[.slice q (I d) u] 155).alloc (.cells #[.int .i64 0] 3)=W1 at*;have L:d≠[]->∀g o cap,Value.slice q (I d) u=.slice (J ⟨g,o,U⟩) (I d) cap->g<xz (xj W1):=λZ g o cap e=>Z5h;refine FV (hw.oc S C) N ⟨λh=>Z5h,Z0,Z0⟩ (.inr ⟨_,_,rfl⟩) (λr e=>Z5h) (λe=>Z5h) (Hc a7 Z0<|λZ g o cap e=>Z5h) ⟨b1,⟨b0,?_⟩,Z0⟩ (λt A B row h hg hr=>h.grown hg (n:=xz<|xj W1) Z0 Z0 L hr) (λbl base t A B h1 h2 h Y=>h.kp Y (n:=xz<|xj W1) Z0 Z0 L h1 h2);obtain⟨X,o1,c1,e1,a1,a2,a3,a4⟩|⟨a,c,e1,h⟩:=P;exact .inl ⟨X,o1,c1,e1,a1,a2,Z0,λi x hx=>⟨(C.cell (p:=⟨X,o1+i*2,U⟩) a3).trans (a4 i x hx).1,(C.cell (p:=⟨X,o1+i*2+1,U⟩) a3).trans (a4 i x hx).2⟩⟩;simp_all
  have H:∀f v n (R:List Ob),(v=.slice U 0 0/\R=[]\/f.ownsRow (xz (xj w)+6) 71 5 v (I R) (Wu R))->ZQ D d xk=(R,n)->Rd f (λb=>xk=xw/\G b\/xz (xj w)<=b/\b<xz (xj f)) (.am [.sl<|(ZQ D d xk).1.map ZU,vi (ZQ D d xk).2]) (.tuple #[v,.int .i64 n]):=by
   intro f v n R k hW;rw[hW];refine .am _ _ rfl ?_;intro i y W
   match i,W with
   |0,W=>
    cases W;obtain⟨rfl,rfl⟩|k:=k;exact .nil _ _ (by grind [maxLen]);exact D2 k λc h1 h2=>.inr ⟨Z0,h2⟩
   |1,W=>cases W;exact .int _ _
  have T:Calls Tryz.prog 84 #[.slice sa sn sc,.func (.func 85) #[] #[.pointer<|J ⟨xz (xj w)+1,0,U⟩,.pointer<|J ⟨xz<|xj w,0,U⟩]] ((w.alloc<|.cells #[.slice q (I d) u] 155).alloc<|.cells #[.int .i64 0] 3) λe f=>
    (∃(v:Value) (t:Nat),e=.returned (.tuple #[v,.int .i64 0])/\f.cell? ⟨xz (xj w)+1,0,U⟩=J (.int .i64 t)/\f.cell? ⟨xz<|xj w,0,U⟩=J (.slice q (I d) u)/\(t:Int)<I d/\Hid (Below (xz<|xj w) w f/\Rd f (λb=>xk=xw/\G b\/xz (xj w)<=b/\b<xz (xj f)) (.am [.sl<|(ZQ D d xk).1.map ZU,vi (ZQ D d xk).2]) (.tuple #[.slice U 0 0,.int .i64 3])))\/
    (∃(v:Value) (t:Nat),e=.returned (.tuple #[v,.int .i64 0])/\f.cell? ⟨xz (xj w)+1,0,U⟩=J (.int .i64 t)/\f.cell? ⟨xz<|xj w,0,U⟩=J (.slice q (I d) u)/\¬(t:Int)<I d/\Hid (Below (xz<|xj w) w f/\Rd f (λb=>xk=xw/\G b\/xz (xj w)<=b/\b<xz (xj f)) (.am [.sl<|(ZQ D d xk).1.map ZU,vi (ZQ D d xk).2]) (.tuple #[v,.int .i64 0])))\/
    (∃(v:Value) (n:Int),e=.returned (.tuple #[v,.int .i64 n])/\¬n=0/\Hid (Below (xz<|xj w) w f/\Rd f (λb=>xk=xw/\G b\/xz (xj w)<=b/\b<xz (xj f)) (.am [.sl<|(ZQ D d xk).1.map ZU,vi (ZQ D d xk).2]) (.tuple #[.slice U 0 0,.int .i64 n]))):=by
   refine Y.mono ?_;rintro e f ⟨v,n,R,rfl,a6,k,hE⟩;rw[M]at k;have hB:Below (xz<|xj w) w f:=C.trans<|(Z6r _ _).grown a6 Z0 (λj e=>Z5h);obtain⟨rfl,t,⟨hb,hs,ht⟩,z⟩|⟨Z,rfl,z⟩:=hE;have q1:f.cell? ⟨xz (xj w)+1,0,U⟩=J (.int .i64 t):=by rw[Z6j _ _ _ _ _ _ hb];rfl
   have q2:f.cell? ⟨xz<|xj w,0,U⟩=J (.slice q (I d) u):=by rw[Z6j _ _ _ _ _ _ hs.box];rfl
   by_cases F:t<I d;rw[Z6k F]at z;exact .inl ⟨v,t,rfl,q1,q2,Z0,Z6e ⟨hB,H f _ _ [] (.inl ⟨rfl,rfl⟩) z⟩⟩;rw[Z6h F]at z;exact .inr<|.inl ⟨v,t,rfl,q1,q2,Z0,Z6e ⟨hB,H f _ _ R (.inr k) z⟩⟩;exact .inr<|.inr ⟨v,n,rfl,Z0,Z6e ⟨hB,H f _ _ [] (.inl ⟨rfl,rfl⟩) z⟩⟩
  have HK:=Z6e T;clear hw N r0 r1 Q P S a0 Y T C b0 b1 a5 M H;go_enter Tryz.func74,Tryz.ntmps74;have a9:∀(fn:Go.Fn) (first cap:Array Value) (w:World),(Instr.makeFunc fn first cap).run Tryz.prog w=.ok (.func fn first cap) w:=λ_ _ _ _=>rfl;go_wp2_with (go_at_call 84;refine HK.out.mono ?_;rintro e f (⟨v,t,rfl,q1,q2,F,K⟩|⟨v,t,rfl,q1,q2,F,K⟩|⟨v,n,rfl,Z,K⟩))
  .refine Z6x (v:=.tuple #[.slice U 0 0,.int .i64 3]) (by simp[results,Tryz.results74,go_sem]) rfl ⟨_,rfl,K.out.1,K.out.2⟩
  .refine Z6x (v:=.tuple #[v,.int .i64 0]) (by simp[results,Tryz.results74,go_sem]) rfl ⟨_,rfl,K.out.1,K.out.2⟩
  .refine Z6x (v:=.tuple #[.slice U 0 0,.int .i64 n]) (by simp[results,Tryz.results74,go_sem]) rfl ⟨_,rfl,K.out.1,K.out.2⟩
end Vm
namespace Vm
open Go Go.Proofs Go.RowKit
end Vm
end
section

end
section
namespace Vm
open Go Go.Proofs
def zl{h:Hp}(a:h.ok):VC Tryz.prog 17 xw [ZF h]<|.bool<|Yp h:=by
 rw[<-(yW h).1];exact Gf zC zB a
def Gd{h:Hp}(a:h.ok){k:Int}:VC Tryz.prog 21 xw [ZF h,vi k]<|.am [.sl<|(RX h k).1.map ZU,vi (RX h k).2]:=by
 rw[<-Nw h k];exact Ge zC zB a
def Gg{h:Hp}(a:h.ok):VC Tryz.prog 112 xw [ZF h]<|vi<|Ka h:=by
 rw[<-Nx h];exact Gh zC zB a
def YM(f t:Ly)(ws out:Z5)(a:Nat):Nat->List Int
 |0=>out
 |j+1=>(YM f t ws out a j).set (a+j) (Yg f t<|(ws[a+j]?).getD 0).1
def Xu(f t:Ly)(ws out:Z5)(o:Ob):List Int:=
 if o.gone then out.set o.Y.toNat (Yg f t<|(ws[o.Y.toNat]?).getD 0).1 else YM f t ws out (o.Y.toNat+1) o.Z.toNat
def V6(f t:Ly)(ws:Z5)(l:Z8):List Int:=l.foldl (Xu f t ws) ws
@[simp]theorem qo(f t:Ly)(ws out:Z5)(a n:Nat):I (YM f t ws out a n)=I out:=by
 induction n with
 |zero=>rfl
 |succ n d=>simp[YM,d]
@[simp]theorem CN(f t:Ly)(ws out:Z5)(o:Ob):I (Xu f t ws out o)=I out:=by
 unfold Xu;split<;>simp
def CL(f t:Ly)(ws:Z5)(l:Z8):∀out,I (l.foldl (Xu f t ws) out)=I out:=by
 induction l with
 |nil=>intro out;rfl
 |cons o l a=>intro out;rw[Z7C,a,CN]
def CS{f t:Ly}{ws out:Z5}{a:Nat}(h:∀w∈out,Zy w):∀n,∀w∈YM f t ws out a n,Zy w
 |0=>h
 |n+1=>λw d=>by
  obtain d|rfl:=Z6Z d;exact CS h n w d;exact jo _ _ _
def O8{f t:Ly}{ws out:Z5}{o:Ob}(h:∀w∈out,Zy w):∀w∈Xu f t ws out o,Zy w:=by
 unfold Xu;split;intro w a;obtain a|rfl:=Z6Z a;exact h w a;exact jo _ _ _;exact CS h _
def Je{f t:Ly}{ws:Z5}{l:Z8}:∀ {out:Z5},(∀w∈out,Zy w)->∀w∈l.foldl (Xu f t ws) out,Zy w:=by
 induction l with
 |nil=>intro out h;exact h
 |cons o l a=>intro out h;rw[Z7C];exact a<|O8 h
def X4(h:Hp)(p:Pts)(base a:Int):Hp:=
 let f:=Zv h;let t:=Zv {h with V:=base,cap:=a}
 {h with V:=base,cap:=a,E:=h.E.map λw=>(Yg f t w).1,H:=V6 f t h.H p.H,aa:=V6 f t h.aa p.aa,ad:=V6 f t h.ad p.ad,ae:=V6 f t h.ae p.ae}
def XC(h:Hp)(base a:Int):Hp×Int:=
 if Yp h=xw\/base=0\/a<0\/4096<a then(Hp.zero,1)else if a<h.cap then(Hp.zero,8)else if 9223372036854775808-2*a<base then(Hp.zero,9)
 else(X4 h ((Xd h).getD default) base a,0)
section
section
variable {f t:Ly}
def SY(a:ZC f=xk)(d:ZC t=xk):Yg f t 0=(0,0):=by
 unfold Yg;rw[Z6h (by simp[a,d]),Z6k rfl]
def Et(g:ZC f=xk)(j:ZC t=xk){k a w:Int}(h:1<=k/\k<=4)(d:0<=a/\a<ZX f k)(o:ZX t k=ZX f k)(l:w≠0)(n:adr w=(ZD f k+a,0)):Yg f t w=(ZG t k a,0):=by
 unfold Yg;rw[Z6h (by simp[g,j]),Z6h l,n];simp only;rw[Td g h d];simp only;rw[TI j h ⟨d.1,Z0⟩];simp[ZG]
def Tp(d:ZC f=xk)(l:ZC t=xk){k a:Int}(h:1<=k/\k<=4)(g:0<=a/\a<ZX f k)(j:ZX t k=ZX f k):Yg f t (ZG f k a)=(ZG t k a,0):=by
 refine Et d l h g j ?_<|WM d g.1;have:=XW d k;unfold ZG;omega
def jN(h:Hp)(b c k:Int):ZX (Zv {h with V:=b,cap:=c}) k=ZX (Zv h) k:=rfl
def CP{ws d out:Z5}{a n:Nat}(h:∀j,j<n->d[a+j]?=ws[a+j]?):YM f t d out a n=YM f t ws out a n:=by
 induction n with
 |zero=>rfl
 |succ n g=>rw[YM,YM,g λj k=>h j Z0,h n Z0]
def CO{ws out:Z5}{a i:Nat}:∀ {n:Nat},i<a\/a+n<=i->(YM f t ws out a n)[i]?=out[i]?
 |0,_=>rfl
 |n+1,h=>by
  rw[YM,Z7q,Z6h Z0];exact CO Z0
def CQ{ws out:Z5}{a i:Nat}:∀ {n:Nat},a<=i->i<a+n->i<I out->(YM f t ws out a n)[i]?=J (Yg f t<|(ws[i]?).getD 0).1
 |0,d,h,_=>Z0
 |n+1,d,h,g=>by
  rw[YM,Z7q];by_cases e:a+n=i;subst e;rw[Z6k rfl,Z6k (by rw[qo];exact g)];rw[Z6h e];exact CQ d Z0 g
def O6{ws out:Z5}{o:Ob}{a m s i:Nat}(d:o.Y=a)(em:o.Z=m)(g:o.size=s)(j:m<=s)(h:i<a\/a+1+s<=i):(Xu f t ws out o)[i]?=out[i]? :=by
 unfold Xu;split;rw[Z7q,Z6h (by rw[d,Z6p];omega)];rw[d,em,Z6p,Z6p];exact CO Z0
def CJ{ws:Z5}{i:Nat}:∀ {l:Z8} {out:Z5},(∀o∈l,∃a m s:Nat,o.Y=a/\o.Z=m/\o.size=s/\m<=s/\(i<a\/a+1+s<=i))->(l.foldl (Xu f t ws) out)[i]?=out[i]?
 | [],_,_=>rfl
 |o::l,out,h=>by
  rw[Z7C,CJ λx n=>h x<|Z76 _ n];obtain⟨a,m,s,d,em,g,k,j⟩:=h o<|Z99 ..;exact O6 d em g k j
def Oc{ws:Z5}:YM f t ws ws 0 (I ws)=ws.map λw=>(Yg f t w).1:=by
 apply Z81;intro i;by_cases h:i<I ws;rw[CQ Z0 Z0 h,Z6G,Z6b h];rfl;rw[Z6X (by rw[qo];omega),Z6X Z5j]
end
section
variable {h:Hp}{p:Pts}{base words:Int}
structure MvOk (h:Hp) (base words:Int):Prop where
 b0:base≠0
 w0:0<=words
 w1:words<=4096
 cap:h.cap<=words
 sg:base<=9223372036854775808-2*words
def MvOk.right(m:MvOk h base words)(d:0<=base)(a:ZC (Zv h)=xk):ZC (Zv {h with V:=base,cap:=words})=xk:=by
 have:=Xe.1 a;have:=m.b0;have:=m.w0;have:=m.w1;have:=m.cap;have:=m.sg;rw[Xe];simp only[Zv]at*;omega
def BO(t:Tld h p)(f:ZC (Zv {h with V:=base,cap:=words})=xk){w i j:Int}(y:1<=i/\i<=4)(z:1<=j/\j<=4)(r:Gos h p w i j):
  Yg (Zv h) (Zv {h with V:=base,cap:=words}) w=(0,0)/\w=0\/∃k o,(k=i\/k=j)/\o∈p.at k/\w=ZG (Zv h) k o.Y/\Yg (Zv h) (Zv {h with V:=base,cap:=words}) w=(ZG (Zv {h with V:=base,cap:=words}) k o.Y,0):=by
 obtain rfl|⟨k,o,g,l,rfl⟩:=r;exact .inl ⟨SY t.al f,rfl⟩;have d:1<=k/\k<=4:=by obtain rfl|rfl:=g<;>assumption
 obtain⟨a,n,m,u,x,em,q,_⟩:=t.ob d l;refine .inr ⟨k,o,g,l,rfl,?_⟩;exact Tp t.al f d ⟨Z0,by rw[VI h d];omega⟩<|jN h base words k
def QX(t:Tld h p)(a:ZC (Zv {h with V:=base,cap:=words})=xk){w i j:Int}(f:1<=i/\i<=4)(g:1<=j/\j<=4)(d:Gos h p w i j):(Yg (Zv h) (Zv {h with V:=base,cap:=words}) w).2=0:=by
 obtain⟨e,_⟩|⟨_,_,_,_,_,e⟩:=BO t a f g d<;>rw[e]
def PA(t:Tld h p)(d:ZC (Zv {h with V:=base,cap:=words})=xk){k:Int}{i:Nat}{w:Int}(a:Yz h p k i w):(Yg (Zv h) (Zv {h with V:=base,cap:=words}) w).2=0:=by
 unfold Yz at a;split at a;exact QX t d Z0 Z0 a;split at a;obtain a|a:=a;exact QX t d Z0 Z0 a;exact QX t d Z0 Z0 a;exact QX t d Z0 Z0 a
def GU{w:Int}(h:(adr w).2=0):w≠0:=by
 rintro rfl;simp[adr]at h
def ML(r:Body h p){k:Int}(g:1<=k/\k<=4){o:Ob}(j:o∈p.at k)(f:o.gone=xk):3<=k/\∃w q,(Zw h k)[o.Y.toNat]?=J w/\q∈p.H/\adr w=(ZD (Zv h) 1+q.Y,0):=by
 have x:=((r.af k g).aq o j).1;obtain⟨w,y,d⟩:=x.cm;rw[f,Z6k rfl]at d;obtain⟨l,n,t⟩:=d;have a:3<=k:=by
  have:=Z9m l;omega
 obtain⟨q,u,e,_⟩:=r.gone k ⟨a,g.2⟩ o j f;refine⟨a,w,q,y,u,?_⟩;rw[<-e,t,<-n]
def MK(r:Body h p)(d:ZC (Zv {h with V:=base,cap:=words})=xk){w:Int}{q:Ob}(j:q∈p.H)(f:adr w=(ZD (Zv h) 1+q.Y,0)):Yg (Zv h) (Zv {h with V:=base,cap:=words}) w=(ZG (Zv {h with V:=base,cap:=words}) 1 q.Y,0):=by
 obtain⟨a,n,m,l,o,em,g,_⟩:=r.toTld.ob (k:=1) Z0 j;exact Et r.al d Z0 ⟨Z0,by rw[VI h Z0];omega⟩ (jN h base words 1) (GU<|by rw[f]) f
def Ny(h:Hp){k:Nat}(a:k<4):Zu h k=Zw h ((k+1:Nat):Int):=by
 have:k=0\/k=1\/k=2\/k=3:=Z0;obtain rfl|rfl|rfl|rfl:=this<;>rfl
def Tiles.oa{ws:Z5}{old:Bool}{l:Z8}(n:Tiles ws old 0 l){i:Nat}{o:Ob}(g:l[i]?=J o):∀x∈l.take i,x.Y+1+x.size<=o.Y:=by
 intro x r;obtain⟨j,d⟩:=Z8r.1 r;have f:j<i:=by
  have:=(Z6d.1 d).1;rw[Z7O]at this;omega
 rw[Z6U f]at d;have p:=n.ff;have a:=(Z6d.1 g).1;have h:x.Y<o.Y:=by
  have:=List.pairwise_iff_getElem.1 p j i Z0 a f;rw[Z6b Z0]at d;rw[Z6b a]at g;rw[Z8s d,Z8s g]at this;exact this
 have k:=(n.aq o<|Z6n g).1;have q:=Yq.1 k.shape;obtain e|e|e:=n.apart x (Z6n d) o<|Z6n g;rw[e]at h;omega;exact e;omega
def O0(r:Body h p)(A:ZC (Zv {h with V:=base,cap:=words})=xk){f t:Ly}(M:f=Zv h)(P:t=Zv {h with V:=base,cap:=words}):∀k,k<4->∀(i:Nat) (o:Ob),(p.at ((k+1:Nat):Int))[i]?=J o->∀out,out=((p.at ((k+1:Nat):Int)).take i).foldl (Xu f t<|Zu h k) (Zu h k)->∃a s m:Nat,o.Y=a/\o.size=s/\o.Z=m/\a+(s+1)<=I (Zu h k)/\s<=255/\m<=s/\
   (o.gone=xk->YM f t out out a 1=Xu f t (Zu h k) out o/\∀x,out[a]?=J x->(Yg f t x).2=0)/\(o.gone=xw->YM f t out out (a+1) m=Xu f t (Zu h k) out o/\∀j,j<m->∀x,out[a+1+j]?=J x->(Yg f t x).2=0):=by
 intro k X i o N out l;have d:1<=((k+1:Nat):Int)/\((k+1:Nat):Int)<=4:=Z0;rw[Ny h X]at l⊢;generalize ((k+1:Nat):Int)=B at*;have H:=Z6n N;obtain⟨a,s,m,u,S,em,G,Y,K⟩:=r.toTld.ob d H;have T:=r.af B d;have g:∀q,a<=q->out[q]?=(Zw h B)[q]? :=λq O=>by
  rw[l];refine CJ λx n=> ?_;obtain⟨R,s',m',C,F,D,L,Z,z⟩:=r.toTld.ob d<|Z7i n;have:=T.oa N x n;exact⟨R,m',s',C,D,F,z,Z0⟩
 refine⟨a,s,m,u,S,em,G,Y,K,λy=>⟨?_,λx n=> ?_⟩,λy=>⟨?_,λj hj x n=> ?_⟩⟩;rw[CP (ws:=Zw h B) λj _=>g (a+j) Z0];unfold Xu;rw[Z6k y,u,Z6p];rfl;obtain⟨_,w,q,Q,O,W⟩:=ML r d H y;rw[u,Z6p]at Q;rw[g a<|Z6i _,Q]at n;cases n;rw[M,P,MK r A O W];rw[CP (ws:=Zw h B) λj _=>g (a+1+j) Z0];unfold Xu;rw[Z6h (by rw[y];simp),u,em,Z6p,Z6p];rw[g _ Z0]at n;have:=r.ptr B d o H y j Z0 x (by rw[u,Z6p];exact n);rw[M,P];exact PA r.toTld A this
end
end
section
section
variable {h:Hp}{p:Pts}
def Body.il(r:Body h p){k:Int}(d:1<=k/\k<=2){o:Ob}(f:o∈p.at k):Vm.fwd h (ZG (Zv h) k o.Y)=(ZG (Zv h) k o.Y,h,0):=by
 obtain⟨a,n,m,g,_,_,j,_⟩:=r.toTld.ob Z0 f;exact Vm.fwd_here r.al d ⟨Z0,Z0⟩
def Body.gm(r:Body h p){k:Int}(q:3<=k/\k<=4){o:Ob}(g:o∈p.at k)(l:o.gone=xk):Vm.fwd h (ZG (Zv h) k o.Y)=(2*o.target+1,h,0):=by
 obtain⟨a,n,m,f,_,_,t,_⟩:=r.toTld.ob Z0 g;obtain⟨u,j,d⟩:=((r.af k Z0).aq o g).1.cm;rw[Z6k l]at d;rw[f,Z6p]at j;rw[f,Vm.fwd_gone r.al q j d.2.1,Ad d.2.1 d.2.2.symm]
def Body.fa(r:Body h p){k:Int}(t:3<=k/\k<=4){o:Ob}(f:o∈p.at k)(q:o.gone=xw){a n:Nat}(j:o.Y=a)(l:o.size=n):
  Vm.fwd h (ZG (Zv h) k o.Y)=(ZG (Zv h) 1<|I h.H,Yd h k a<|n+1,0)/\((n+1:Nat):Int)<=Xh (Zv h):=by
 obtain⟨z,y,m,A,B,_,C,_⟩:=r.toTld.ob Z0 f;have:z=a:=Z0;subst this;have:y=n:=Z0;subst this;obtain⟨u,x,d⟩:=((r.af k Z0).aq o f).1.cm;rw[Z6h (by simp[q])]at d;rw[j,Z6p]at x;have D:=r.cx;have g:=Z1l t f;unfold Wc at g;rw[q,l]at g;simp at g;have e:Xh (Zv h)=h.cap-I h.H-I h.aa:=by unfold Xh;rw[Z6k r.al];rfl
 have w:((y+1:Nat):Int)<=Xh (Zv h):=Z0;rw[j];exact⟨Vm.fwd_wait r.al t x (d.1<|Z7H Z0) (by rw[d.2.1,l]) C w,w⟩
end
def RU(h:Hp){k:Int}(d:3<=k/\k<=4)(a n:Nat):(Yd h k a n).H=h.H++((Zw h k).take<|a+n).drop a/\(Yd h k a n).aa=h.aa/\Zw (Yd h k a n) k=(zr (Zw h k) a n).set a (ZG (Zv h) 1<|I h.H)/\Zw (Yd h k a n) (7-k)=Zw h (7-k)/\
  (Yd h k a n).E=h.E/\(Yd h k a n).O=h.O/\(Yd h k a n).M=h.M/\(Yd h k a n).cap=h.cap/\(Yd h k a n).V=h.V/\(Yd h k a n).to=h.to:=by
 have:k=3\/k=4:=Z0;obtain rfl|rfl:=this<;>exact⟨rfl,rfl,rfl,rfl,rfl,rfl,rfl,rfl,rfl,rfl⟩
end
section
def Al{ws a}:∀ {n j},j<n->a+n<=I ws->(zr ws a n)[a+j]?=J 0
 |0,_,h,_=>Z0
 |n+1,j,h,d=>by
  rw[zr];by_cases e:j=n;subst e;rw[Z7b (by rw[Kg];omega)];rw[Z6W Z0];exact Al Z0 Z0
def Stands.ct{ws r old o}(s:Stands ws old o):Stands (ws++r) old o:=by
 have k:=Yq.1 s.shape;have g:=s.ah;have h:=s.gd;have f:(ws++r)[o.Y.toNat]?=ws[o.Y.toNat]? :=Z5h;refine⟨s.gd,s.shape,Z5j,Uz λj w d=> ?_,by rw[f];exact s.cm⟩;have a:j<o.size.toNat:=by
  have:=(Z6d.1 d).1;simp at this;omega
 rw[Z6U a,Z6C,Z6B Z0]at d;refine Rg s.ew j w ?_;simp_all
def Tiles.append{ws r old}:∀ {a} {l d:Z8},Tiles ws old a l->a<=I ws->Tiles (ws++r) old (I ws) d->Tiles (ws++r) old a (l++d)
 |a,[],d,h,g,f=>by
  have:I ws<=a:=h;have:a=I ws:=Z0;subst this;exact f
 |a,o::l,d,h,g,f=>by
  have k:=Yq.1 h.2.1.shape;have j:=h.2.1.ah;have e:=h.1;exact⟨h.1,h.2.1.ct,Tiles.append h.2.2 Z0 f⟩
theorem Tiles.map{ws d old f}(g:∀o,(f o).Y=o.Y/\(f o).size=o.size)(j:I d=I ws):∀ {a} {l:Z8},Tiles ws old a l->(∀o∈l,Stands d old<|f o)->Tiles d old a (l.map f)
 |a,[],h,_=>by show I d<=a;rw[j];exact h
 |a,o::l,h,k=>⟨by rw[(g o).1];exact h.1,k o<|.head _,by rw[(g o).2];exact Tiles.map g j h.2.2 λx n=>k x<|.tail _ n⟩
def Vh(a t:Int)(q:Ob):Ob:=if q.Y=a then {q with gone:=xk,target:=t}else q
theorem QW a t q:(Vh a t q).Y=q.Y/\(Vh a t q).size=q.size/\(Vh a t q).Z=q.Z:=by
 unfold Vh;grind
theorem Uj{a t q}(h:q.Y≠a):Vh a t q=q:=Z6h h
theorem VU{a t q}(h:q.Y=a):Vh a t q= {q with gone:=xk,target:=t}:=Z6k h
def Pts.mv(p:Pts)(k:Int)(o:Ob)(L:Nat)(t:Int):Pts:=⟨p.H++[⟨L,o.size,o.Z,xw,0⟩],p.aa,if k=3 then p.ad.map (Vh o.Y t)else p.ad,if k=3 then p.ae else p.ae.map<|Vh o.Y t⟩
section
variable {h:Hp}{p:Pts}
def Jf{k}(a:3<=k/\k<=4)o L t:(p.mv k o L t).at 1=p.H++[⟨L,o.size,o.Z,xw,0⟩]/\(p.mv k o L t).at 2=p.aa/\(p.mv k o L t).at k=(p.at k).map (Vh o.Y t)/\(p.mv k o L t).at (7-k)=p.at (7-k):=by
 have:k=3\/k=4:=Z0;obtain rfl|rfl:=this<;>exact⟨rfl,rfl,rfl,rfl⟩
def Of{k}(d:3<=k/\k<=4){o L t j}(u:1<=j/\j<=4){q}(w:q∈p.at j):∃a∈(p.mv k o L t).at j,a.Y=q.Y/\a.size=q.size/\a.Z=q.Z/\(a.gone=xw->a=q)/\(j<3->a=q):=by
 let⟨h,l,n,r⟩:=Jf (p:=p) d o L t;by_cases f:j=1;subst f;exact⟨q,Z5i,rfl,rfl,rfl,Z1,Z1⟩;by_cases g:j=2;subst g;exact⟨q,Z5i,rfl,rfl,rfl,Z1,Z1⟩;grind [Vh,List.mem_map_of_mem,QW,VU,Uj]
def Oe{g k}(f:3<=k/\k<=4){o L t}(r:∀j b,ZG (Zv g) j b=ZG (Zv h) j b){w i j}(x:1<=i/\i<=4)(y:1<=j/\j<=4)(d:Gos h p w i j):Gos g (p.mv k o L t) w i j:=by
 obtain rfl|⟨m,q,l,n,rfl⟩:=d;exact .inl rfl;let⟨u,a,e,_⟩:=Of (p:=p) f (o:=o) (L:=L) (t:=t) (j:=m) Z0 n;exact .inr ⟨m,u,l,a,by rw[r,e]⟩
def G9{l o t}(d:l.Pairwise λx y=>x.Y<y.Y)(a:o∈l)(h:o.gone=xw):Yi (l.map<|Vh o.Y t)+(1+o.size.toNat)=Yi l:=by
 induction l with
 |nil=>simp at a
 |cons x l g=>
  rw[Z9a]at d;simp only[Yi,Z6R]at g⊢;obtain rfl|a:=Z6S.1 a
  .have:l.map (Vh o.Y t)=l:=by
    conv=>rhs;rw[<-List.map_id l]
    refine Z7w λy f=>Uj ?_;have:=d.1 y f;omega
   rw[VU rfl];grind [Wc]
  grind [Uj]
def Body.move(r:Body h p)(b6:h.O<=I h.H){k}(G:3<=k/\k<=4){o}(P:o∈p.at k)(hg:o.gone=xw){a n:Nat}(ea:o.Y=a)(N:o.size=n):
  Body (Yd h k a<|n+1) (p.mv k o (I h.H)<|ZD (Zv h) 1+I h.H):=by
 obtain⟨B,D,m,a7,a9,em,K,b3,b2⟩:=r.toTld.ob (k:=k) Z0 P;have:B=a:=Z0;subst this;have:D=n:=Z0;subst this;obtain⟨_,hm⟩:=r.fa G P hg ea N;obtain⟨m1,m2,m3,m4,m5,m6,m7,m8,m9,b8⟩:=RU h G B<|D+1;have Z:=Ja G (g:=h) K;have mr:=CB r.al G K hm;have hr:=R4 G K;have hw:∀ {j:Int} {b:Nat},3<=j/\j<=4->(j≠k\/b<B\/B+(D+1)<=b)->(Zw (Yd h k B<|D+1) j)[b]?=(Zw h j)[b]? :=λC hb=>Jb G Z0 C hb;have O:∀ {j:Int},3<=j/\j<=4->I (Zw (Yd h k B<|D+1) j)=I (Zw h j):=λC=>qi G C;have R:ZD (Zv<|Yd h k B<|D+1) 1=ZD (Zv h) 1:=by rw[Z];rfl
 have X:∀i,i<D+1->(((Zw h k).take<|B+(D+1)).drop B)[i]?=(Zw h k)[B+i]? :=Z5i;have a4:I (((Zw h k).take<|B+(D+1)).drop B)=D+1:=Z5j;obtain⟨e1,e2,e3,e4⟩:=Jf (p:=p) G o (I h.H)<|ZD (Zv h) 1+I h.H;have H:=((r.af k Z0).aq o P).1;obtain⟨u,hu,hc⟩:=H.cm;rw[Z6h (by simp[hg])]at hc;rw[ea,Z6p]at hu;generalize b1:Yd h k B (D+1)=g at*;generalize a6:((Zw h k).take<|B+(D+1)).drop B=ws at*;have a1:∀q∈p.at k,q.Y≠o.Y->∀i:Nat,(i:Int)<=q.size->q.Y.toNat+i<B\/B+(D+1)<=q.Y.toNat+i:=by
  intro q d S i A;obtain⟨b,l,_,eb,el,_⟩:=r.toTld.ob (k:=k) Z0 d;rcases(r.af k Z0).apart q d o P with e|e|e;simp_all;left;omega;omega
 have F:∀q∈p.at k,q.Y≠o.Y->∀i:Nat,(i:Int)<=q.size->(Zw g k)[q.Y.toNat+i]?=(Zw h k)[q.Y.toNat+i]? :=λq d S i A=>hw G<|.inr<|a1 q d S i A;have a0:∀b,(Zw g<|7-k)[b]?=(Zw h<|7-k)[b]? :=λb=>hw Z0 Z0;have T:Stands (h.H++ws) xw ⟨I h.H,o.size,o.Z,xw,0⟩:=by
  refine⟨Z1,H.shape,Z5j,Uz λj w C=>⟨Z1,λW=> ?_⟩,u,?_,?_⟩;have L:j<D:=by
   have:=(Z6d.1 C).1;simp[N]at this;omega
  simp only[N,Z6p]at C;rw[Z6U L,Z6C,Z6v Z0,show I h.H+1+j-I h.H=1+j by omega,X _ Z0]at C;refine(Rg H.ew j w ?_).2 W;rw[ea,N,Z6p,Z6p,Z6U L,Z6C,<-C,Z77];simp only[Z6p];grind;grind
 have a5:=XW r.al 1;refine⟨⟨mr,λj C=> ?_⟩,λj C q d z=> ?_,λj C q d z i A w f=> ?_,?_⟩;by_cases j1:j=1;subst j1;rw[e1];simp only[Xn,m1];exact(r.af 1 Z0).append Z0 ⟨rfl,T,by show I (h.H++ws)<=_;simp[N,a4];omega⟩;by_cases j2:j=2;subst j2;rw[e2];simp only[Uq,m2];exact r.af 2 Z0;by_cases Y:j=k;subst Y;rw[e3];refine(r.af j Z0).map (λq=>⟨(QW _ _ q).1,(QW _ _ q).2.1⟩) (O G) λq d=> ?_;by_cases e:q.Y=o.Y;have:q=o:=r.toTld.cy Z0 P d e;subst this;rw[VU rfl];refine⟨H.gd,H.shape,Z5h,Uz λi w A=> ?_,ZG (Zv h) 1<|I h.H,?_,?_⟩;have L:i<D:=by
  have:=(Z6d.1 A).1;simp[N]at this;omega
 simp only[ea,N,Z6p]at A;rw[Z6U L,Z6C,m3,Z6W Z0,Z77,Al Z0 K]at A;cases A;exact⟨Z0,λ_=>rfl⟩;grind [Int.toNat_natCast,List.getElem?_set_self,Kg];simp only[Z7m];rw[WM r.al Z0];grind;rw[Uj e];refine((r.af j Z0).aq q d).1.congr (O G) (by simpa using F q d e 0 (by have:=Yq.1 ((r.af j Z0).aq q d).1.shape;omega)) λi A=>.inl ?_;rw[Z77];exact F q d e (1+i) Z0;have:j=7-k:=Z0;subst this;rw[e4,m4];exact r.af (7-k) Z0;by_cases Y:j=k;subst Y;rw[e3,Z6F]at d;obtain⟨x,Q,rfl⟩:=d;by_cases e:x.Y=o.Y;have:x=o:=r.toTld.cy Z0 P Q e;subst this;rw[VU rfl];exact⟨_,Z8R _<|.head _,by rw[R],rfl,rfl⟩;rw[Uj e]at z⊢;obtain⟨y,hy,y1,y2,y3⟩:=r.gone j C x Q z;exact⟨y,Z7r _ hy,Z0,y2,y3⟩;have:j=7-k:=Z0;subst this;rw[e4]at d;obtain⟨y,hy,y1,y2,y3⟩:=r.gone _ C q d z;exact⟨y,Z7r _ hy,Z0,y2,y3⟩;have b0:∀ {w i j:Int},1<=i/\i<=4->1<=j/\j<=4->Gos h p w i j->Gos g (p.mv k o (I h.H)<|ZD (Zv h) 1+I h.H) w i j:=λA C=>Oe G hr A C;have M:∀ {j:Int} {i:Nat} {w:Int},Yz h p j i w->Yz g (p.mv k o (I h.H)<|ZD (Zv h) 1+I h.H) j i w:=λ{j i w} W=>by
  unfold Yz at W⊢;rw[m6];by_cases c1:2<j;grind;rw[Z6h c1]at W⊢;by_cases c2:j=1/\h.O<=i;grind;rw[Z6h c2]at W⊢;grind
 by_cases j1:j=1;subst j1;rw[e1]at d;obtain d|d:=Z6Q.1 d;obtain⟨b,l,l',eb,el,a8,a2,_⟩:=r.toTld.ob (k:=1) Z0 d;simp only[Xn]at a2 f;rw[m1,Z6B Z0]at f;exact M<|r.ptr 1 Z0 q d z i A w f;simp at d;subst d;simp only at A f⊢;simp only[Z6p,Xn,m1]at f⊢;rw[Z6v Z0,show I h.H+1+i-I h.H=1+i by omega,X _ Z0]at f;have:=r.ptr k Z0 o P hg i A w (by grind [Int.toNat_natCast,Nat.add_assoc]);unfold Yz at this⊢;rw[Z6k Z0]at this;rw[Z6h Z0,Z6k ⟨rfl,Z0⟩];grind;by_cases j2:j=2;subst j2;rw[e2]at d;simp only[Uq,m2]at f;exact M<|r.ptr 2 Z0 q d z i A w f;by_cases Y:j=k;subst Y;rw[e3,Z6F]at d;obtain⟨x,Q,rfl⟩:=d;by_cases e:x.Y=o.Y;grind [VU];rw[Uj e]at z A f⊢;have b4:=(Yq.1 ((r.af j Z0).aq x Q).1.shape).2.2.2;rw[Z77,F x Q e (1+i) Z0,<-Z77]at f;exact M<|r.ptr j C x Q z i A w f;have:j=7-k:=Z0;subst this;rw[e4]at d;rw[m4]at f;exact M<|r.ptr _ C q d z i A w f;have b5:=r.cx;have b7:Yt (p.mv k o (I h.H)<|ZD (Zv h) 1+I h.H)+(1+D)=Yt p:=by
  have h1:=(r.af k Z0).ff;have:=G9 (t:=ZD (Zv h) 1+I h.H) h1 P hg;rw[N,Z6p]at this;unfold Yt;have a3:k=3\/k=4:=Z0;obtain rfl|rfl:=a3;simp only[Pts.ng]at this;simp only[Pts.mv,Z7m];omega;simp only[Pts.nh]at this;simp only[Pts.mv,show ¬(4:Int)=3 by omega,Z7K];omega
 grind
end
end
section
def Xk(o:Ob)(q:Nat):Prop:=(o.gone=xk/\q=o.Y.toNat)\/(o.gone=xw/\o.Y.toNat+1<=q/\q<o.Y.toNat+1+o.Z.toNat)
section
variable {f t:Ly}
def CR{ws out:Z5}{a q:Nat}(d:I out=I ws):∀n,(YM f t ws out a n)[q]?=if a<=q/\q<a+n then(ws[q]?).map (λw=>(Yg f t w).1)else out[q]?
 |0=>by rw[Z6h Z0];rfl
 |n+1=>by
  rw[YM,Z7q];by_cases e:a+n=q;subst e;rw[Z6k rfl,qo,d];by_cases h:a+n<I ws;rw[Z6k h,Z6k Z0,Z6b h];rfl;rw[Z6h h,Z6k Z0,Z6X Z0];rfl;rw[Z6h e,CR d n];by_cases h:a<=q/\q<a+n;rw[Z6k h,Z6k Z0];rw[Z6h h,Z6h Z0]
open Classical in
def O7{ws out:Z5}{q:Nat}{o:Ob}(d:I out=I ws):(Xu f t ws out o)[q]?=if Xk o q then(ws[q]?).map (λw=>(Yg f t w).1)else out[q]? :=by
 unfold Xu Xk;cases g:o.gone with
 |true=>
  rw[Z6k rfl,Z7q];by_cases e:o.Y.toNat=q;subst e;rw[Z6k rfl,d];by_cases h:o.Y.toNat<I ws;rw[Z6k h,Z6k<|Or.inl ⟨rfl,rfl⟩,Z6b h];rfl;rw[Z6h h,Z6k<|Or.inl ⟨rfl,rfl⟩,Z6X Z0];rfl;rw[Z6h e,Z6h (by rintro(⟨_,h⟩|⟨h,_⟩);exact e h.symm;cases h)]
 |false=>
  rw[Z6h Z1,CR d];by_cases h:o.Y.toNat+1<=q/\q<o.Y.toNat+1+o.Z.toNat;rw[Z6k h,Z6k<|Or.inr ⟨rfl,h⟩];rw[Z6h h,Z6h (by rintro(⟨a,_⟩|⟨_,a⟩);cases a;exact h a)]
open Classical in
def qn{ws:Z5}{q:Nat}:∀ {l:Z8} {out:Z5},I out=I ws->(l.foldl (Xu f t ws) out)[q]?=if ∃o∈l,Xk o q then(ws[q]?).map (λw=>(Yg f t w).1)else out[q]?
 | [],out,_=>by rw[Z6h (by rintro⟨o,h,_⟩;cases h)];rfl
 |o::l,out,j=>by
  rw[Z7C,qn (by rw[CN];exact j)];by_cases h:∃o∈l,Xk o q;rw[Z6k h,Z6k (by obtain⟨x,a,g⟩:=h;exact⟨x,Z76 _ a,g⟩)];rw[Z6h h,O7 j];by_cases d:Xk o q;rw[Z6k d,Z6k ⟨o,Z99 ..,d⟩];rw[Z6h d,Z6h];rintro⟨x,a,g⟩;obtain rfl|a:=Z6S.1 a;exact d g;exact h ⟨x,a,g⟩
def Jd{ws:Z5}{l:Z8}{q:Nat}{o:Ob}(a:o∈l)(d:Xk o q):(V6 f t ws l)[q]?=(ws[q]?).map (λw=>(Yg f t w).1):=by
 unfold V6;rw[qn rfl,Z6k ⟨o,a,d⟩]
def L8{ws:Z5}{l:Z8}{q:Nat}(h:∀o∈l,¬Xk o q):(V6 f t ws l)[q]?=ws[q]? :=by
 unfold V6;rw[qn rfl,Z6h (by rintro⟨o,a,d⟩;exact h o a d)]
def Up{ws:Z5}{l:Z8}:I (V6 f t ws l)=I ws:=CL _ _ _ _ _
def Xm(f t:Ly)(o:Ob):Ob:=if o.gone then {o with target:=ZD t 1+(o.target-ZD f 1)}else o
def V7(o:Ob):(Xm f t o).Y=o.Y/\(Xm f t o).size=o.size/\(Xm f t o).Z=o.Z/\(Xm f t o).gone=o.gone:=by
 unfold Xm;split<;>exact⟨rfl,rfl,rfl,rfl⟩
def CM{o:Ob}(a:o.gone=xw):Xm f t o=o:=by unfold Xm;rw[a];rfl
def WC(f:Ly)(w:Int):Prop:=w=0\/∃k a,(1<=k/\k<=4)/\(0<=a/\a<ZX f k)/\w=ZG f k a
structure LkL (f t:Ly):Prop where
 hf:ZC f=xk
 ht:ZC t=xk
 gt:∀k,ZX t k=ZX f k
def LkL.ip(l:LkL f t){w:Int}(h:WC f w):WC t (Yg f t w).1:=by
 obtain rfl|⟨k,a,g,d,rfl⟩:=h;rw[SY l.hf l.ht];exact .inl rfl;rw[Tp l.hf l.ht g d<|l.gt k];exact .inr ⟨k,a,g,⟨d.1,by rw[l.gt];exact d.2⟩,rfl⟩
end
section
variable {h:Hp}{p:Pts}{base words:Int}
def UP(t:Tld h p){w i j:Int}(x:1<=i/\i<=4)(y:1<=j/\j<=4)(g:Gos h p w i j):WC (Zv h) w:=by
 obtain rfl|⟨k,o,l,q,rfl⟩:=g;exact .inl rfl;have d:1<=k/\k<=4:=by obtain rfl|rfl:=l<;>assumption
 obtain⟨a,n,m,r,u,em,f,_⟩:=t.ob d q;exact .inr ⟨k,o.Y,d,⟨Z0,by rw[VI h d];omega⟩,rfl⟩
def PB(t:Tld h p){k:Int}{i:Nat}{w:Int}(a:Yz h p k i w):WC (Zv h) w:=by
 unfold Yz at a;split at a;exact UP t Z0 Z0 a;split at a;obtain a|a:=a;exact UP t Z0 Z0 a;exact UP t Z0 Z0 a;exact UP t Z0 Z0 a
def yA(r:Body h p){k:Int}(g:1<=k/\k<=4){o:Ob}(j:o∈p.at k)(f:o.gone=xk):∃q,q∈p.H/\(Zw h k)[o.Y.toNat]?=J (ZG (Zv h) 1 q.Y)/\o.target=ZD (Zv h) 1+q.Y/\q.size=o.size/\q.Z=o.Z/\3<=k:=by
 have z:=((r.af k g).aq o j).1;obtain⟨w,A,d⟩:=z.cm;rw[f,Z6k rfl]at d;obtain⟨t,u,x⟩:=d;have a:3<=k:=by
  have:=Z9m t;omega
 obtain⟨q,y,e,l,n⟩:=r.gone k ⟨a,g.2⟩ o j f;refine⟨q,y,?_,e,l,n,a⟩;rw[A,Ad u (by rw[<-x,e])];rfl
def Ul(r:Body h p){k:Int}(l:1<=k/\k<=4){o:Ob}(t:o∈p.at k){q:Nat}(A:Xk o q){w:Int}(d:(Zw h k)[q]?=J w):WC (Zv h) w:=by
 obtain⟨g,rfl⟩|⟨g,C,D⟩:=A;obtain⟨x,B,e,_⟩:=yA r l t g;rw[e]at d;cases d;obtain⟨a,n,m,u,y,em,f,_⟩:=r.toTld.ob (k:=1) Z0 B;exact .inr ⟨1,x.Y,Z0,⟨Z0,by rw[VI h Z0];omega⟩,rfl⟩;obtain⟨a,n,m,u,y,em,f,_⟩:=r.toTld.ob l t;obtain⟨j,z⟩:∃j,q=o.Y.toNat+1+j:=⟨q- (o.Y.toNat+1),Z0⟩;rw[z]at d;exact PB r.toTld<|r.ptr k l o t g j Z0 w d
def yG(t:Tld h p){k:Int}(g:1<=k/\k<=4){o:Ob}(l:o∈p.at k){q:Nat}(r:Xk o q):o.Y<=q/\(q:Int)<o.Y+1+o.size:=by
 obtain⟨a,n,m,u,w,em,d,_,j⟩:=t.ob g l;obtain⟨f,rfl⟩|⟨f,x,y⟩:=r<;>omega
def RN(t:Tld h p){k:Int}(a:1<=k/\k<=4){o x:Ob}(d:o∈p.at k)(hx:x∈p.at k){q:Nat}(f:Xk x q)(g:o.Y<=q)(h2:(q:Int)<o.Y+1+o.size):x=o:=by
 have:=yG t a hx f;rcases(t.af k a).apart x hx o d with e|e|e;exact e;omega;omega
def Wt(f t:Ly)(p:Pts):Pts:=⟨p.H.map<|Xm f t,p.aa.map<|Xm f t,p.ad.map<|Xm f t,p.ae.map<|Xm f t⟩
def Tm{f t:Ly}(k:Int):(Wt f t p).at k=(p.at k).map (Xm f t):=by
 unfold Pts.at Wt;split;rfl;split;rfl;split<;>rfl
def Q8{k:Int}(a:1<=k/\k<=4):Zw (X4 h p base words) k=V6 (Zv h) (Zv {h with V:=base,cap:=words}) (Zw h k) (p.at k):=by
 have:k=1\/k=2\/k=3\/k=4:=Z0;obtain rfl|rfl|rfl|rfl:=this<;>rfl
def J3:Zv (X4 h p base words)=Zv {h with V:=base,cap:=words}:=by
 unfold Zv X4;simp only[Up]
def Z1D{f t:Ly}(o:Ob):Wc (Xm f t o)=Wc o:=by
 obtain⟨g,a,h,d⟩:=V7 (f:=f) (t:=t) o;unfold Wc;rw[a,d]
def zk{f t:Ly}(l:Z8):Yi (l.map<|Xm f t)=Yi l:=by
 unfold Yi;rw[Z9M];congr 1;exact Z7w λo _=>Z1D o
def Fz{f t:Ly}(l:Z8)(a:Int):X1 (l.map<|Xm f t) (ZD t 1+a)=X1 l (ZD f 1+a):=by
 unfold X1;rw[List.filter_map,Z6D];congr 1;apply List.filter_congr;intro o _;simp only[Function.comp];cases d:o.gone with
 |false=>rw[CM d,d];rfl
 |true=>
  rw[(V7 o).2.2.2,d];have:(Xm f t o).target=ZD t 1+(o.target-ZD f 1):=by unfold Xm;rw[d];rfl
  rw[this];simp only[Z8u];by_cases e:o.target=ZD f 1+a;rw[Z7H e,Z7H Z0];rw[Z8t e,Z8t Z0]
def MvOk.nr(m:MvOk h base words)(d:0<=base)(a:ZC (Zv h)=xk):LkL (Zv h)<|Zv {h with V:=base,cap:=words}:=
 ⟨a,m.right d a,λk=>jN h base words k⟩
def N4{f:Ly}(g:ZC f=xk){k a:Int}(d:0<=a):WG (ZG f k a)=xk:=by
 unfold WG;rw[WM g d];simp
def Mp{f:Ly}(g:ZC f=xk){w:Int}(h:WC f w):WG w=xk:=by
 obtain rfl|⟨k,a,j,d,rfl⟩:=h;rfl;exact N4 g d.1
def QY(r:Body h p)(l:LkL (Zv h)<|Zv {h with V:=base,cap:=words}){w i j:Int}(f:1<=i/\i<=4)(g:1<=j/\j<=4)(d:Gos h p w i j):
  Gos (X4 h p base words) (Wt (Zv h) (Zv {h with V:=base,cap:=words}) p) (Yg (Zv h) (Zv {h with V:=base,cap:=words}) w).1 i j:=by
 obtain⟨e,_⟩|⟨k,o,n,q,e,a⟩:=BO r.toTld l.ht f g d;rw[e];exact .inl rfl;rw[a];refine .inr ⟨k,Xm _ _ o,n,by rw[Tm];exact Z74 q,?_⟩;rw[J3,(V7 o).1]
def PC(r:Body h p)(l:LkL (Zv h)<|Zv {h with V:=base,cap:=words}){k:Int}{i:Nat}{w:Int}(a:Yz h p k i w):
  Yz (X4 h p base words) (Wt (Zv h) (Zv {h with V:=base,cap:=words}) p) k i (Yg (Zv h) (Zv {h with V:=base,cap:=words}) w).1:=by
 have g:(X4 h p base words).O=h.O:=rfl;unfold Yz at*;rw[g];split at a;rename_i d;rw[Z6k d];exact QY r l Z0 Z0 a;rename_i d;rw[Z6h d];split at a;rename_i f;rw[Z6k f];obtain a|a:=a;exact .inl<|QY r l Z0 Z0 a;exact .inr<|QY r l Z0 Z0 a;rename_i f;rw[Z6h f];exact QY r l Z0 Z0 a
def Z0K(r:Body h p)(l:LkL (Zv h)<|Zv {h with V:=base,cap:=words}){k:Int}(y:1<=k/\k<=4){o:Ob}(B:o∈p.at k):
  Stands (Zw (X4 h p base words) k) (decide (2<k)) (Xm (Zv h) (Zv {h with V:=base,cap:=words}) o):=by
 have F:=((r.af k y).aq o B).1;obtain⟨G,H,K,L⟩:=V7 (f:=Zv h) (t:=Zv {h with V:=base,cap:=words}) o;obtain⟨a,n,m,ea,en,em,T,_,X⟩:=r.toTld.ob y B;rw[Q8 y];refine⟨by rw[G];exact F.gd,by rw[H,K];exact F.shape,by rw[G,H,Up];exact F.ah,?_,?_⟩;rw[G,H,K,L];refine Uz λj w d=> ?_;have D:j<o.size.toNat:=by
  have:=(Z6d.1 d).1;simp at this;omega
 rw[Z6U D,Z6C]at d;by_cases O:∃x∈p.at k,Xk x<|o.Y.toNat+1+j;obtain⟨x,A,u⟩:=O;have:=RN r.toTld y B A u Z0 Z0;subst this;rw[Jd A u]at d;obtain⟨g,e⟩|⟨g,C,S⟩:=u;omega;refine⟨λh=>(by rw[g]at h;cases h),λ_=> ?_⟩;cases z:(Zw h k)[x.Y.toNat+1+j]? with
 |none=>rw[z]at d;cases d
 |some w0=>
  rw[z]at d;cases d;exact Mp l.ht<|l.ip<|Ul r y A (.inr ⟨g,C,S⟩) z
 rw[L8 λx A u=>O ⟨x,A,u⟩]at d;refine Rg F.ew j w ?_;rw[Z6U D,Z6C];exact d;cases g:o.gone with
 |true=>
  obtain⟨q,u,d,Z,_,_,W⟩:=yA r y B g;obtain⟨a',n',m',P,R,Q,M,_⟩:=r.toTld.ob (k:=1) Z0 u;rw[G,L,g,Jd B<|.inl ⟨g,rfl⟩,d];refine⟨_,rfl,?_⟩;rw[Z6k rfl];refine⟨Z7H Z0,?_⟩;show(adr (Yg _ _ _).1).2=0/\_=(adr (Yg _ _ _).1).1;rw[Tp (k:=1) (a:=q.Y) l.hf l.ht Z0 ⟨Z0,by rw[VI h Z0];omega⟩<|l.gt 1];simp only;rw[WM l.ht Z0];refine⟨rfl,?_⟩;show(Xm _ _ o).target=_;unfold Xm;rw[g,Z6k rfl];show ZD _ 1+(o.target-_)=ZD _ 1+q.Y;omega
 |false=>
  have Y:∀x∈p.at k,¬Xk x o.Y.toNat:=λx A u=>by
   have:=RN r.toTld y B A u Z0 Z0;subst this;obtain⟨C,_⟩|⟨_,C,_⟩:=u;rw[g]at C;cases C;omega
  obtain⟨w,d,N⟩:=F.cm;rw[CM g,L8 Y,g];rw[g]at N;exact⟨w,d,N⟩
def Z16(r:Body h p)(l:LkL (Zv h)<|Zv {h with V:=base,cap:=words}){k:Int}(a:1<=k/\k<=4):
  Tiles (Zw (X4 h p base words) k) (decide (2<k)) 0 ((Wt (Zv h) (Zv {h with V:=base,cap:=words}) p).at k):=by
 rw[Tm];exact Tiles.map (λo=>⟨(V7 o).1,(V7 o).2.1⟩) (by rw[Q8 a,Up]) (r.af k a) λo d=>Z0K r l a d
def Rt.mv(r:Rt h p)(m:MvOk h base words)(P:0<=base):Rt (X4 h p base words)<|Wt (Zv h) (Zv {h with V:=base,cap:=words}) p:=by
 have l:=m.nr P r.al;have d:(X4 h p base words).H.length=I h.H:=Up;have z:(X4 h p base words).aa.length=I h.aa:=Up;have x:(X4 h p base words).ad.length=I h.ad:=Up;have u:(X4 h p base words).ae.length=I h.ae:=Up;refine⟨⟨⟨by rw[J3];exact l.ht,λk A=>Z16 r.toBody l A⟩,?_,?_,?_⟩,?_,r.dq,by rw[d];exact r.cz,λC=>by rw[d];exact r.fq C,λC=> ?_,λC o B=> ?_,λw y=> ?_⟩;intro k A R g a;rw[Tm]at g;obtain⟨o,B,rfl⟩:=Z6F.1 g;obtain⟨M,N,D,F⟩:=V7 (f:=Zv h) (t:=Zv {h with V:=base,cap:=words}) o;rw[F]at a;obtain⟨q,G,Q,H,K⟩:=r.gone k A o B a;refine⟨Xm _ _ q,Z74 G,?_,by rw[(V7 q).2.1,N];exact H,by rw[(V7 q).2.2.1,D];exact K⟩;rw[J3,(V7 q).1];unfold Xm;rw[Z6k a];show ZD _ 1+(o.target-_)=ZD _ 1+q.Y;omega;intro k A R g a j O w y;rw[Tm]at g;obtain⟨o,B,rfl⟩:=Z6F.1 g;obtain⟨M,N,D,F⟩:=V7 (f:=Zv h) (t:=Zv {h with V:=base,cap:=words}) o;rw[F]at a;rw[M]at y⊢;rw[D]at O;rw[Q8 A,Jd B<|.inr ⟨a,Z0,Z0⟩]at y;cases n:(Zw h k)[o.Y.toNat+1+j]? with
 |none=>rw[n]at y;cases y
 |some L=>
  rw[n]at y;cases y;exact PC r.toBody l<|r.ptr k A o B a j O L n
 have T:=r.cx;have W:=m.cap;rw[d,z];have:Yt (Wt (Zv h) (Zv {h with V:=base,cap:=words}) p)=Yt p:=by
  unfold Yt Wt;rw[zk,zk]
 rw[this];show _<=words;omega;show I (h.E.map _)<=16;rw[Z6D];exact r.dj;obtain⟨H,K,S⟩:=r.df C;refine⟨by rw[d];exact H,?_,?_⟩;rw[K]at x;exact Z7f.1 x;rw[S]at u;exact Z7f.1 u;obtain⟨q,G,rfl⟩:=Z6F.1 (show o∈p.H.map _ from B);have:=r.dt C q G;unfold U4 at this⊢;rw[J3,(V7 q).1];show X1 (p.ad.map _) _+X1 (p.ae.map _) _=1;rw[Fz,Fz];exact this;obtain⟨L,n,rfl⟩:=Z6F.1 (show w∈h.E.map _ from y);exact QY r.toBody l Z0 Z0<|r.E L n
def qk(r:Rt h p)(m:MvOk h base words):XC h base words=(X4 h p base words,0):=by
 unfold XC;have:=m.b0;have:=m.w0;have:=m.w1;have:=m.cap;have:=m.sg;rw[Z6h (by rw[r.right];simp;omega),Z6h Z0,Z6h Z0,r.eh,Z6K]
end
end
section
def UF(h:Hp)(p:Pts):Prop:=∀o∈p.H,U4 p (ZD (Zv h) 1+o.Y)=1
section
variable {h g:Hp}{p q:Pts}
def Z14{l o t b}(d:l.Pairwise λx y=>x.Y<y.Y)(a:o∈l)(g:o.gone=xw):X1 (l.map<|Vh o.Y t) b=X1 l b+if t=b then 1 else 0:=by
 induction l with
 |nil=>simp at a
 |cons x l h=>
  rw[Z9a]at d;have e:∀y r,X1 (y::r) b=(if y.gone=xk/\y.target=b then 1 else 0)+X1 r b:=λy r=>by
   unfold X1;grind
  rw[Z6R,e];obtain rfl|a:=Z6S.1 a
  .have:l.map (Vh o.Y t)=l:=by
    conv=>rhs;rw[<-List.map_id l]
    refine Z7w λy f=>Uj ?_;have:=d.1 y f;omega
   rw[VU rfl];grind
  grind [Uj]
def Z15(r:Body h p){b:Int}(n:I h.H<=b):U4 p (ZD (Zv h) 1+b)=0:=by
 have key:∀k,3<=k/\k<=4->X1 (p.at k) (ZD (Zv h) 1+b)=0:=λk d=>by
  unfold X1;rw[Z7f,Z8M];intro o f a;simp[Z6J]at a;let⟨y,g,e,_⟩:=r.gone k d o f a.1;have:=r.toTld.mf g;omega
 have j:=key 3 Z0;have l:=key 4 Z0;simp_all[Pts.ng,Pts.nh,U4]
def Z0W(r:Body h p){k}(j:3<=k/\k<=4){o}(g:o∈p.at k)(f:o.gone=xw){L t b}:U4 (p.mv k o L t) b=U4 p b+if t=b then 1 else 0:=by
 have d:=Z14 (t:=t) (b:=b) (r.af k Z0).ff g f;unfold U4;have a:k=3\/k=4:=Z0;obtain rfl|rfl:=a;simp[Pts.ng]at d;simp[Pts.mv];omega;simp[Pts.nh]at d;simp[Pts.mv,Z7K];omega
structure Ext (h:Hp) (p:Pts) (g:Hp) (q:Pts):Prop where
 H:∃ws,g.H=h.H++ws
 aa:g.aa=h.aa
 V:g.V=h.V
 cap:g.cap=h.cap
 ou:g.to=h.to
 M:g.M=h.M
 O:g.O=h.O
 E:g.E=h.E
 oz:I g.ad=I h.ad
 np:I g.ae=I h.ae
 gx:∃r,q.H=p.H++r
 ie:q.aa=p.aa
 lp:∀k:Int,3<=k/\k<=4->(q.at k).map (λo=>(o.Y,o.size,o.Z))=(p.at k).map (λo=>(o.Y,o.size,o.Z))
 gone:∀k:Int,3<=k/\k<=4->∀(i:Nat) (o o':Ob),(p.at k)[i]?=J o->(q.at k)[i]?=J o'->(o.gone=xk->o'=o)/\(o'.gone=xw->o'=o/\∀j:Nat,(j:Int)<=o.size->(Zw g k)[o.Y.toNat+j]?=(Zw h k)[o.Y.toNat+j]?)
 cx:(I g.H:Int)+Yt q=I h.H+Yt p
def Ext.refl h p:Ext h p h p:=
 ⟨⟨[],Z1⟩,rfl,rfl,rfl,rfl,rfl,rfl,rfl,rfl,rfl,⟨[],Z1⟩,rfl,Z1,Z5i,rfl⟩
theorem Ext.trans{f s}(a:Ext h p g q)(b:Ext g q f s):Ext h p f s:=by
 let⟨P,C⟩:=a.H;let⟨Q,D⟩:=b.H;let⟨N,F⟩:=a.gx;let⟨O,G⟩:=b.gx;refine⟨Z5i,b.aa.trans a.aa,b.V.trans a.V,b.cap.trans a.cap,b.ou.trans a.ou,b.M.trans a.M,b.O.trans a.O,b.E.trans a.E,b.oz.trans a.oz,b.np.trans a.np,Z5i,b.ie.trans a.ie,λk d=>(b.lp k d).trans<|a.lp k d,λk d i o n r z=> ?_,b.cx.trans a.cx⟩;have K:I (q.at k)=I (p.at k):=by have:=Z7J List.length<|a.lp k d;simpa using this
 have H:=(Z6d.1 r).1;have l:(q.at k)[i]?=J ((q.at k)[i]'Z0):=Z1;generalize (q.at k)[i]'Z0=t at l;let⟨u,w⟩:=a.gone k d i o t r l;let⟨x,y⟩:=b.gone k d i t n l z;refine⟨λj=> ?_,λj=> ?_⟩;have:=u j;subst this;exact x j;let⟨A,L⟩:=y j;subst A;let⟨B,M⟩:=w j;subst B;exact⟨rfl,Z5i⟩
def Ext.fst(e:Ext h p g q)k a(d:k=1\/k=3\/k=4\/k=2):ZG (Zv g) k a=ZG (Zv h) k a:=by
 unfold ZG ZD Zv;simp[e.V,e.cap,e.ou,e.aa,e.np]
def Ext.mem(e:Ext h p g q){j}(l:1<=j/\j<=4){o}(f:o∈p.at j):∃a∈q.at j,a.Y=o.Y/\a.size=o.size/\a.Z=o.Z:=by
 have d:j=1\/j=2\/j=3\/j=4:=Z0;obtain rfl|rfl|k:=d;let⟨r,n⟩:=e.gx;exact⟨o,Z5i,rfl,rfl,rfl⟩;exact⟨o,by show o∈q.aa;rw[e.ie];exact f,rfl,rfl,rfl⟩;have:=e.lp j Z0;grind [List.mem_map_of_mem]
def Ext.na(e:Ext h p g q){w i j}(t:1<=i/\i<=4)(u:1<=j/\j<=4)(l:Gos h p w i j):Gos g q w i j:=by
 obtain rfl|⟨m,o,f,n,rfl⟩:=l;exact .inl rfl;have a:1<=m/\m<=4:=by obtain rfl|rfl:=f<;>assumption
 let⟨r,d,k,_⟩:=e.mem a n;exact .inr ⟨m,r,f,d,by rw[e.fst _ _ Z0,k]⟩
theorem Body.ext(r:Body h p)(S:h.O<=I h.H){k}(f:3<=k/\k<=4){o}(q:o∈p.at k)(P:o.gone=xw){a n:Nat}(ea:o.Y=a)(en:o.size=n):
  Ext h p (Yd h k a<|n+1) (p.mv k o (I h.H)<|ZD (Zv h) 1+I h.H):=by
 let⟨u,B,m,N,O,em,y,R,Q⟩:=r.toTld.ob (k:=k) Z0 q;have:u=a:=Z0;subst this;have:B=n:=Z0;subst this;let⟨W,X,m3,m4,Y,Z,m7,m8,m9,A⟩:=RU h f u<|B+1;let⟨K,L,M,e4⟩:=Jf (p:=p) f o (I h.H)<|ZD (Zv h) 1+I h.H;have T:(Yd h k u<|B+1).ae.length=I h.ae:=qi (j:=4) f Z0;refine⟨⟨_,W⟩,X,m9,m8,A,m7,Z,Y,qi (j:=3) f Z0,T,⟨_,K⟩,L,λj D=> ?_,λj D i x x' g w=> ?_,?_⟩;by_cases H:j=k;simp_all[Z9M,Z7w,QW,ZD,Zv,Function.comp];have:j=7-k:=Z0;simp_all;by_cases H:j=k;subst H;rw[M,Z6G,g]at w;simp at w;subst w;have d:=Z6n g;by_cases e:x.Y=o.Y;have:=r.toTld.cy Z0 q d e;subst this;rw[VU rfl];exact⟨Z5i,Z1⟩;rw[Uj e];refine⟨Z1,λ_=>⟨rfl,λi hi=>Jb f Z0 D<|.inr ?_⟩⟩;let⟨b,l,_,eb,el,_⟩:=r.toTld.ob (k:=j) Z0 d;rcases(r.af j Z0).apart x d o q with C|C|C;simp_all;left;omega;omega;have:j=7-k:=Z0;simp_all;have g:=(r.af k Z0).ff;have G:=G9 (t:=ZD (Zv h) 1+I h.H) g q P;have F:=Cz f y;unfold Yt;have z:k=3\/k=4:=Z0;obtain rfl|rfl:=z;simp[Pts.ng]at G;simp[Pts.mv,Z7m];omega;simp[Pts.nh]at G;simp[Pts.mv,show ¬(4:Int)=3 by omega,Z7K];omega
def OC(r:Body h p)(f:UF h p)(g:h.O<=I h.H){k}(l:3<=k/\k<=4){o}(q:o∈p.at k)(j:o.gone=xw){a n:Nat}(t:o.Y=a)(u:o.size=n):
  UF (Yd h k a<|n+1) (p.mv k o (I h.H)<|ZD (Zv h) 1+I h.H):=by
 have w:ZD (Zv<|Yd h k a<|n+1) 1=ZD (Zv h) 1:=by
  have:=(r.ext g l q j t u).fst 1 0 Z0;unfold ZG at this;omega
 intro x d;rw[Z0W r l q j,w];obtain d|d:=Z6Q.1 d;have:=r.toTld.mf d;rw[f x d,Z6h Z0];simp_all[Z15,Int.le_refl]
def Res(g:Hp)(q:Pts)(w v:Int):Prop:=(w=0/\v=0)\/∃k o,(k=3\/k=4)/\o∈q.at k/\w=ZG (Zv g) k o.Y/\o.gone=xk/\v=2*o.target+1
theorem Res.ext{w v}(r:Res h p w v)(e:Ext h p g q):Res g q w v:=by
 obtain r|⟨k,o,t,u,f,a,j⟩:=r;exact .inl r;let⟨i,d⟩:=Z6A u;have x:I (q.at k)=I (p.at k):=by have:=Z7J List.length<|e.lp k Z0;simpa using this
 have n:=(Z6d.1 d).1;have l:(q.at k)[i]?=J ((q.at k)[i]'Z0):=Z1;have:=(e.gone k Z0 i o _ d l).1 a;exact .inr ⟨k,o,t,Z5h,by rw[e.fst _ _ Z0];exact f,a,j⟩
structure FwdTo (h:Hp) (p:Pts) (w v:Int) (g:Hp) (q:Pts):Prop where
 fwd:fwd h w=(v,g,0)
 body:Body g q
 dt:UF h p->UF g q
 ext:Ext h p g q
 rj:Gos g q v 1 2
 zero:v=0↔w=0
 bj:(Gos h p w 1 2/\v=w/\g=h/\q=p)\/Res g q w v
 how:(g=h/\q=p)\/∃(k:Int) (o:Ob) (a n:Nat),(3<=k/\k<=4)/\o∈p.at k/\o.gone=xw/\o.Y=a/\o.size=n/\g=Yd h k a (n+1)/\q=p.mv k o (I h.H) (ZD (Zv h) 1+I h.H)/\v=ZG (Zv h) 1 (I h.H)
def Body.dx(r:Body h p)(l:h.O<=I h.H){w}(M:Gos h p w 1 2\/Gos h p w 3 4):∃v g q,FwdTo h p w v g q:=by
 by_cases C:w=0;subst C;exact⟨0,h,p,QU r.al,r,id,.refl h p,.inl rfl,Z1,.inr<|.inl ⟨rfl,rfl⟩,Z1⟩;have B:∃k o,1<=k/\k<=4/\o∈p.at k/\w=ZG (Zv h) k o.Y:=by
  obtain(G|⟨k,o,f,d,e⟩)|(G|⟨k,o,f,d,e⟩):=M;omega;grind;omega;grind
 obtain⟨k,o,D,O,d,rfl⟩:=B;by_cases H:k<=2;exact⟨_,h,p,r.il ⟨D,H⟩ d,r,id,.refl h p,.inr ⟨k,o,Z0,d,rfl⟩,Z8b,.inl ⟨.inr ⟨k,o,Z0,d,rfl⟩,rfl,rfl,rfl⟩,Z1⟩;have f:3<=k/\k<=4:=Z0;cases j:o.gone;let⟨a,n,m,t,u,em,K,_⟩:=r.toTld.ob ⟨D,O⟩ d;let⟨F,_⟩:=r.fa f d j t u;have e:=r.ext l f d j t u;have b:=r.move l f d j t u;have x:(⟨I h.H,o.size,o.Z,xw,0⟩:Ob)∈(p.mv k o (I h.H)<|ZD (Zv h) 1+I h.H).H:=Z8R _<|.head _;have A:ZG _ 1 (I h.H)=ZG _ 1 (I h.H):=(e.fst 1 _ Z0).symm;exact⟨_,_,_,F,b,λz=>OC r z l f d j t u,e,.inr ⟨1,_,.inl rfl,x,A⟩,iff_of_false (jw r.al Z0) C,.inr<|.inr ⟨k,_,Z0,by rw[(Jf f o _ _).2.2.1];exact Z74 d,by rw[e.fst _ _ Z0,(QW _ _ _).1],by rw[VU rfl],by rw[VU rfl];rfl⟩,.inr ⟨k,o,a,n,f,d,j,t,u,rfl,rfl,rfl⟩⟩;let⟨y,N,e,_⟩:=r.gone k f o d j;have L:2*o.target+1=ZG (Zv h) 1 y.Y:=by unfold ZG;omega
 refine⟨_,h,p,r.gm f d j,r,id,.refl h p,.inr ⟨1,y,.inl rfl,N,L⟩,?_,.inr<|.inr ⟨k,o,Z0,d,rfl,j,rfl⟩,Z1⟩;omega
end
end
section
def mu(h g:Hp)(w:Int):Int:=(Yg (Zv h) (Zv g) w).1
structure Mvd (h:Hp) (p:Pts) (g:Hp):Prop where
 ht:ZC (Zv g)=xk
 gt:∀k,ZX (Zv g) k=ZX (Zv h) k
 da:g.to=h.to/\g.M=h.M/\g.O=h.O
 ptr:∀k:Int,1<=k/\k<=4->∀o∈p.at k,∀i,Xk o i->∀w,(Zw h k)[i]?=J w->(Zw g k)[i]?=J (mu h g w)
 fj:∀k:Int,1<=k/\k<=4->∀i,(∀o∈p.at k,¬Xk o i)->(Zw g k)[i]?=(Zw h k)[i]?
 E:g.E=h.E.map (mu h g)
section
variable {h g:Hp}{p q:Pts}
def Body.dn(r:Body h p)(s:Body h q):q=p:=by
 have w:q.H=p.H:=Tiles.mc (r.af 1 Z0)<|s.af 1 Z0;have G:q.aa=p.aa:=Tiles.mc (r.af 2 Z0)<|s.af 2 Z0;have key:∀k:Int,3<=k/\k<=4->q.at k=p.at k:=λk g=>(r.af k Z0).dn (s.af k Z0) λo x A f u d H=>by
  obtain⟨y,z,e,D,F⟩:=r.gone k g o x u;obtain⟨B,a,C,j,l⟩:=s.gone k g A f d;rw[w]at a;have:B=y:=r.toTld.cy (k:=1) Z0 z a Z0;subst this;exact⟨Z0,Z0⟩
 have n:=key 3 Z0;have t:=key 4 Z0;simp only[Pts.ng,Pts.nh]at n t;cases p;cases q;simp_all
def CI{f t d n:Ly}(l:LkL f t)(g:LkL d n)(e:∀k a,1<=k/\k<=4->0<=a->a<ZX d k->a<ZX f k/\ZG d k a=ZG f k a/\ZG n k a=ZG t k a){w:Int}(r:WC d w):(Yg d n w).1=(Yg f t w).1:=by
 obtain rfl|⟨k,a,j,h,rfl⟩:=r;rw[SY l.hf l.ht,SY g.hf g.ht];obtain⟨o,p,q⟩:=e k a j h.1 h.2;rw[Tp g.hf g.ht j h<|g.gt k,p,Tp l.hf l.ht j ⟨h.1,o⟩<|l.gt k];exact q
def Mvd.lk(m:Mvd h p g)(a:ZC (Zv h)=xk):LkL (Zv h)<|Zv g:=⟨a,m.ht,m.gt⟩
def Mvd.len(m:Mvd h p g){k:Int}(a:1<=k/\k<=4):I (Zw g k)=I (Zw h k):=by
 have:=m.gt k;rw[VI g a,VI h a]at this;omega
def Mvd.ky(m:Mvd h p g)(a:ZC (Zv h)=xk):mu h g 0=0:=by
 unfold mu;rw[SY a m.ht]
def Mvd.ld(m:Mvd h p g)(j:ZC (Zv h)=xk){k a:Int}(f:1<=k/\k<=4)(d:0<=a/\a< I (Zw h k)):mu h g (ZG (Zv h) k a)=ZG (Zv g) k a:=by
 unfold mu;rw[Tp j m.ht f ⟨d.1,by rw[VI h f];exact d.2⟩<|m.gt k]
def Mvd.eq(m:Mvd h p g):g=X4 h p g.V g.cap:=by
 have q:Zv {h with V:=g.V,cap:=g.cap}=Zv g:=by
  have r:=m.len (k:=1) Z0;have t:=m.len (k:=2) Z0;have u:=m.len (k:=3) Z0;have x:=m.len (k:=4) Z0;simp only[Xn,Uq,qN,SU]at r t u x;unfold Zv;rw[r,t,u,x,m.da.1]
 have key:∀k:Int,1<=k/\k<=4->Zw g k=Zw (X4 h p g.V g.cap) k:=λk j=>by
  rw[Q8 j,q];apply Z81;intro i;by_cases e:∃o∈p.at k,Xk o i;obtain⟨o,d,f⟩:=e;rw[Jd d f];cases n:(Zw h k)[i]? with
  |none=>
   rw[Z8c]at n;rw[Z6X (by rw[m.len j];exact n)];rfl
  |some w=>rw[m.ptr k j o d i f w n];rfl
  rw[L8 λo d f=>e ⟨o,d,f⟩];exact m.fj k j i λo d f=>e ⟨o,d,f⟩
 have z:=key 1 Z0;have A:=key 2 Z0;have B:=key 3 Z0;have C:=key 4 Z0;have l:g.E=(X4 h p g.V g.cap).E:=by
  rw[m.E];show _=h.E.map λw=>(Yg (Zv h) (Zv {h with V:=g.V,cap:=g.cap}) w).1;rw[q];rfl
 obtain⟨D,F,G⟩:=m.da;have y:∀a b:Hp,a.V=b.V->a.cap=b.cap->a.to=b.to->a.M=b.M->a.O=b.O->a.H=b.H->a.aa=b.aa->a.ad=b.ad->a.ae=b.ae->a.E=b.E->a=b:=λa b=>by
  cases a;cases b;simp only
  intros
  simp[*]
 exact y _ _ rfl rfl D F G z A B C l
theorem Mvd.of(r:Body h p){base a:Int}(l:LkL (Zv h)<|Zv {h with V:=base,cap:=a}):Mvd h p<|X4 h p base a:=by
 have d:Zv (X4 h p base a)=Zv {h with V:=base,cap:=a}:=J3;refine⟨by rw[d];exact l.ht,λk=>by rw[d];exact l.gt k,⟨rfl,rfl,rfl⟩,λk g o j i f w n=> ?_,λk g i f=> ?_,?_⟩;rw[Q8 g,Jd j f,n];unfold mu;rw[d];rfl;rw[Q8 g,L8 f];show h.E.map _=h.E.map _;unfold mu;rw[d]
def Mvd.move(r:Body h p)(m:Mvd h p g)(a4:h.O<=I h.H){k:Int}(A:3<=k/\k<=4){o:Ob}(H:o∈p.at k)(hg:o.gone=xw){a n:Nat}(ea:o.Y=a)(en:o.size=n)(N:((n+1:Nat):Int)<=Xh (Zv g))(a3:∀w∈h.E,WC (Zv h) w):
  Mvd (Yd h k a<|n+1) (p.mv k o (I h.H)<|ZD (Zv h) 1+I h.H) (Yd g k a<|n+1):=by
 have t:1<=k/\k<=4:=Z0;obtain⟨d,f,mm,a6,b0,em,B,b6,b5⟩:=r.toTld.ob t H;have:d=a:=Z0;subst this;have:f=n:=Z0;subst this;have C:d+(f+1)<=I (Zw g k):=by rw[m.len t];exact B
 have b:=r.move a4 A H hg ea en;have lh:=Ja (g:=h) A B;have lg:=Ja (g:=g) A C;have hL:I g.H=I h.H:=m.len (k:=1) Z0;obtain⟨m1,m2,m3,m4,m5,m6,m7,m8,m9,a5⟩:=RU h A d<|f+1;obtain⟨g1,g2,g3,g4,g5,g6,g7,g8,g9,a0⟩:=RU g A d<|f+1;obtain⟨e1,e2,e3,e4⟩:=Jf (p:=p) A o (I h.H)<|ZD (Zv h) 1+I h.H;have M:ZC (Zv<|Yd g k d<|f+1)=xk:=CB m.ht A C N;have O:∀j,ZX (Zv<|Yd g k d<|f+1) j=ZX (Zv<|Yd h k d<|f+1) j:=λj=>by
  have:=m.gt j;rw[lh,lg,hL];unfold ZX at this⊢;split;rfl;rename_i z;rw[Z6h z,Z6h z]at this;exact this
 have L':LkL (Zv<|Yd h k d<|f+1)<|Zv<|Yd g k d<|f+1:=⟨b.al,M,O⟩;have F:∀w,WC (Zv h) w->mu (Yd h k d<|f+1) (Yd g k d<|f+1) w=mu h g w:=λw u=>by
  refine(CI L' (m.lk r.al) (λj c hj h0 Q=>⟨?_,?_,?_⟩) u).symm;rw[lh];unfold ZX at Q⊢;split;rename_i z;rw[Z6k z]at Q;have:(Zv h).H=I h.H:=rfl;show c< ((I h.H+(f+1):Nat):Int);omega;rename_i z;rw[Z6h z]at Q;exact Q;exact(R4 A B j c).symm;exact(R4 A C j c).symm
 have S:mu (Yd h k d<|f+1) (Yd g k d<|f+1) (ZG (Zv h) 1<|I h.H)=ZG (Zv g) 1 (I h.H):=by
  rw[<-R4 A B,<-R4 A C];unfold mu;rw[Tp b.al M Z0 ⟨Z0,?_⟩<|O 1];rw[lh];show(I h.H:Int)< ((I h.H+(f+1):Nat):Int);omega
 have wl:∀(x:Hp),d+(f+1)<=I (Zw x k)->(Yd x k d<|f+1).H=x.H++((Zw x k).take<|d+(f+1)).drop d->I x.H=I h.H->∀i,(i<I h.H->(Yd x k d<|f+1).H[i]?=x.H[i]?)/\(∀j,i=I h.H+j->j<f+1->(Yd x k d<|f+1).H[i]?=(Zw x k)[d+j]?)/\(I h.H+(f+1)<=i->(Yd x k d<|f+1).H[i]?=U):=λx l e el i=>by
  rw[e];refine⟨λq=>Z6B Z0,λj hj b4=> ?_,λq=> ?_⟩;rw[Z6v Z0,Z6C,Z6U Z0];congr 1;omega;refine Z6X ?_;simp;omega
 have X:=wl h B m1 rfl;have W:=wl g C g1 hL;have T:∀x∈p.at k,∀i,Xk x i->d<=i->i<d+(f+1)->x=o:=λx l i q z P=>RN r.toTld t H l q Z0 Z0;have word:∀x,(Yd x k d<|f+1)=(Yd x k d<|f+1):=λ_=>rfl;have Y:∀(x:Hp),d+(f+1)<=I (Zw x k)->∀i,d<i->i<d+(f+1)->(Zw (Yd x k d<|f+1) k)[i]?=J 0:=λx l i z P=>by
  obtain⟨_,_,x3,_⟩:=RU x A d<|f+1;rw[x3,Z6W Z0];have:=Al (ws:=Zw x k) (a:=d) (n:=f+1) (j:=i-d) Z0 l;rw[show d+(i-d)=i by omega]at this;exact this
 refine⟨M,O,⟨by rw[a0,a5];exact m.da.1,by rw[g7,m7];exact m.da.2.1,by rw[g6,m6];exact m.da.2.2⟩,λj hj x l i q w u=> ?_,λj hj i q=> ?_,?_⟩;have h4:j=1\/j=2\/j=k\/j=7-k:=Z0;by_cases j1:j=1;subst j1;rw[e1]at l;simp only[Xn]at u⊢;obtain l|l:=Z6Q.1 l;have b7:=yG r.toTld (k:=1) Z0 l q;obtain⟨b1,b2,b3,a7,a8,a9,a1,_⟩:=r.toTld.ob (k:=1) Z0 l;simp only[Xn]at a1;have R:i<I h.H:=Z0;rw[(X i).1 R]at u;rw[(W i).1 R];exact(m.ptr 1 Z0 x l i q w u).trans (by rw[F w<|Ul r (k:=1) Z0 l q u]);have:=Z86.1 l;subst this;have a2:∃c,i=I h.H+(1+c)/\c<mm:=by
  obtain⟨z,_⟩|⟨_,z,P⟩:=q;cases z;simp only at z P;exact⟨i-I h.H-1,Z0,Z0⟩
 obtain⟨c,rfl,Q⟩:=a2;have K:Xk o<|d+(1+c):=.inr ⟨hg,Z0,Z0⟩;rw[(X _).2.1 (1+c) rfl Z0]at u;rw[(W _).2.1 (1+c) rfl Z0,m.ptr k t o H _ K w u,F w<|Ul r t H K u];by_cases j2:j=2;subst j2;rw[e2]at l;simp only[Uq]at u⊢;rw[m2]at u;rw[g2];exact(m.ptr 2 Z0 x l i q w u).trans (by rw[F w<|Ul r (k:=2) Z0 l q u]);by_cases jk:j=k;subst jk;rw[e3]at l;obtain⟨y,Z,rfl⟩:=Z6F.1 l;by_cases e:y.Y=o.Y;have:y=o:=r.toTld.cy t H Z e;subst this;rw[VU rfl]at q;have L:i=d:=by
  obtain⟨_,z⟩|⟨z,_⟩:=q;simp only at z;omega;cases z
 subst L;rw[CA A B Z0]at u;cases u;rw[CA A C Z0,S,hL];rw[Uj e]at q;have D:i<d\/d+(f+1)<=i:=by
  by_cases z:i<d;exact .inl z;by_cases P:d+(f+1)<=i;exact .inr P;exact absurd (by rw[T y Z i q Z0 Z0]) e
 rw[Jb A Z0 A<|.inr D]at u⊢;rw[m.ptr j t y Z i q w u,F w<|Ul r t Z q u];have:j=7-k:=Z0;subst this;rw[e4]at l;rw[m4]at u;rw[g4,m.ptr _ Z0 x l i q w u,F w<|Ul r Z0 l q u];have h4:j=1\/j=2\/j=k\/j=7-k:=Z0;by_cases j1:j=1;subst j1;rw[e1]at q;simp only[Xn];by_cases z:i<I h.H;rw[(X i).1 z,(W i).1 z];exact m.fj 1 Z0 i λx l=>q x<|Z7r _ l;by_cases P:i<I h.H+(f+1);obtain⟨c,rfl⟩:∃c,i=I h.H+c:=⟨i-I h.H,Z0⟩;rw[(X _).2.1 c rfl Z0,(W _).2.1 c rfl Z0];refine m.fj k t _ λx l K=> ?_;have:=T x l _ K Z0 Z0;subst this;refine q _ (Z8R _<|.head _)<|.inr ⟨rfl,?_⟩;obtain⟨h3,_⟩|⟨_,h3,h5⟩:=K;rw[hg]at h3;cases h3;simp only;omega;rw[(X i).2.2 Z0,(W i).2.2 Z0];by_cases j2:j=2;subst j2;rw[e2]at q;simp only[Uq];rw[m2,g2];exact m.fj 2 Z0 i q;by_cases jk:j=k;subst jk;rw[e3]at q;by_cases L:i=d;subst L;exact absurd (.inl ⟨by rw[VU rfl],by rw[VU rfl];simp only;omega⟩)<|q _<|Z74 H;by_cases G:d<i/\i<d+(f+1);rw[Y h B i G.1 G.2,Y g C i G.1 G.2];have D:i<d\/d+(f+1)<=i:=Z0;rw[Jb A Z0 A<|.inr D,Jb A Z0 A<|.inr D];refine m.fj j t i λx l K=> ?_;by_cases e:x.Y=o.Y;have:x=o:=r.toTld.cy t H l e;subst this;have:=yG r.toTld t l K;omega;have:=q _<|Z74 l;rw[Uj e]at this;exact this K;have:j=7-k:=Z0;subst this;rw[e4]at q;rw[m4,g4];exact m.fj _ Z0 i q;rw[g5,m5,m.E];exact Z7w λw u=>(F w<|a3 w u).symm
end
end
section
def XN(l:Z8)(i:Int):Bool:=l.any λo=>decide (o.Y<i)&&decide (i<=o.Y+o.Z)
def Yv(g:Hp):Hp:=if g.O=(I g.H) then {g with M:=xw,ad:=[],ae:=[]}else g
def scan1(h:Hp):Hp:=
 Yv (if XN (ZQ h.H [] xw).1 h.O=xk then
  {(fwd h<|(h.H[h.O.toNat]?).getD 0).2.1 with H:=(fwd h<|(h.H[h.O.toNat]?).getD 0).2.1.H.set h.O.toNat (fwd h<|(h.H[h.O.toNat]?).getD 0).1,O:=h.O+1}
 else {h with O:=h.O+1})
def scanK(h:Hp):Nat->Hp
 |0=>h
 |k+1=>if h.M then scanK (scan1 h) k else h
section
variable {h g:Hp}{p q:Pts}
def TX{l i}:XN l i=xk↔ ∃o∈l,o.Y<i/\i<=o.Y+o.Z:=by
 unfold XN;simp
def Rt.lu(r:Rt h p):ZQ h.H [] xw=(p.H,0):=by
 have t:=r.af 1 Z0;simp[Pts.lw]at t;refine Kc t ?_;unfold Vj;have:p.H.filter (λo=>o.gone)=[]:=by
  rw[Z8M];intro o a;rw[t.bi o a];simp
 rw[this];rfl
def BX(t:Tld h p){w}(f:Gos h p w 1 2):WG w=xk:=by
 unfold WG;obtain a|⟨k,_,_,_,o,_,d,_⟩:=f.ss t Z0 Z0;simp[a];simp[d]
def Body.lr(b:Body g q){i:Nat}(hs:g.O=i)(L:i<I g.H){v}(N:Gos g q v 1 2)(H:XN q.H i=xk):Body {g with H:=g.H.set i v,O:=i+1} q:=by
 let⟨o,M,h1,h2⟩:=TX.1 H;let⟨a,n,m,Y,Z,em,F,_,X⟩:=b.toTld.ob (k:=1) Z0 M;simp[Xn]at F;have G:Zv {g with H:=g.H.set i v,O:=i+1}=Zv g:=by
  unfold Zv;simp
 have f:∀ {w O P},Gos {g with H:=g.H.set i v,O:=i+1} q w O P↔Gos g q w O P:=UD G;have A:=b.af 1 Z0;simp[Xn,Pts.lw]at A;have u:∀x∈q.H,∀j:Nat,j<=x.size->x.Y.toNat+j=i->x=o/\0<j/\j<=x.Z:=by
  intro x p j r e;let⟨c,d,Q,R,S,D,_⟩:=b.toTld.ob (k:=1) Z0 p;obtain C|C|C:=A.apart x p o M;subst C;exact⟨rfl,Z0,Z0⟩;omega;omega
 refine⟨⟨by rw[G];exact b.al,λk B=> ?_⟩,by rw[G];exact b.gone,λk B x p K j r w t=> ?_,?_⟩;by_cases y:k=1;subst y;show Tiles (g.H.set i v) _ 0 q.H;refine A.congr Z1 λx p=> ?_;have l:=(A.aq x p).1;let⟨c,d,Q,R,S,D,W,_⟩:=b.toTld.ob (k:=1) Z0 p;have T:(g.H.set i v)[x.Y.toNat]?=g.H[x.Y.toNat]? :=by
  refine Z6W λe=> ?_;have:=(u x p 0 Z0 Z0).2.1;omega
 refine⟨l.gd,l.shape,by simpa using l.ah,Uz λj w r=>⟨λh=>(by rw[A.bi x p]at h;cases h),λH=> ?_⟩,by rw[T];exact l.cm⟩;have z:j<x.size.toNat:=by
  omega
 rw[Z6U z,Z6C]at r;by_cases e:x.Y.toNat+1+j=i;rw[e,Z7b L]at r;cases r;exact BX b.toTld N;rw[Z6W Z0]at r;refine(Rg l.ew j w ?_).2 H;rw[Z6U z,Z6C];exact r;have:=b.af k B;have e:Zw {g with H:=g.H.set i v,O:=i+1} k=Zw g k:=by unfold Zw;rw[Z6h y,Z6h y]
 rw[e];exact this;unfold Yz;by_cases y:k=1;subst y;simp[Xn]at t;rw[Z6h Z0];by_cases e:x.Y.toNat+1+j=i;rw[e,Z7b L]at t;cases t;rw[Z6h (by rw[e];simp only;omega)];exact f.2 N;rw[Z6W Z0]at t;have:=b.ptr 1 B x p K j r w t;unfold Yz at this;rw[Z6h Z0]at this;by_cases c:g.O<=((x.Y.toNat+1+j:Nat):Int);rw[Z6k ⟨rfl,c⟩]at this;rw[Z6k ⟨rfl,Z63⟩];exact this.imp f.2 f.2;rw[Z6h Z0]at this;rw[Z6h Z63];exact f.2 this;have e:Zw {g with H:=g.H.set i v,O:=i+1} k=Zw g k:=by unfold Zw;rw[Z6h y,Z6h y]
 rw[e]at t;have:=b.ptr k B x p K j r w t;unfold Yz at this;by_cases c:2<k;rw[Z6k c]at this⊢;exact f.2 this;rw[Z6h c,Z6h Z0]at this;rw[Z6h c,Z6h Z0];exact f.2 this;have:=b.cx;simpa using this
def Body.ph(b:Body g q){i:Nat}(z:g.O=i)(p:¬XN q.H i=xk):Body {g with O:=i+1} q:=by
 refine⟨⟨b.al,b.af⟩,b.gone,λk l x d f j h w r=> ?_,b.cx⟩;have:=b.ptr k l x d f j h w r;unfold Yz at this⊢;by_cases c:2<k;rw[Z6k c]at this⊢;exact this;rw[Z6h c]at this⊢;by_cases t:k=1;subst t;by_cases c:g.O<=((x.Y.toNat+1+j:Nat):Int);rw[Z6k ⟨rfl,c⟩]at this
 have o:x.Y.toNat+1+j≠i:=λe=>p (TX.2 ⟨x,d,by
  let⟨a,n,m,u,y,em,_⟩:=b.toTld.ob (k:=1) Z0 d;omega⟩)
 rw[Z6k ⟨rfl,Z63⟩];exact this;rw[Z6h Z0]at this;rw[Z6h Z63];exact this;rw[Z6h Z0]at this⊢;exact this
def Body.stop(b:Body g q)(F:g.O=I g.H):Body {g with M:=xw,ad:=[],ae:=[]} ⟨q.H,q.aa,[],[]⟩:=by
 have z:=Xe.1 b.al;have D:∀k a,(k=1\/k=2)->ZG (Zv {g with M:=xw,ad:=[],ae:=[]}) k a=ZG (Zv g) k a:=λk a d=>by
  obtain rfl|rfl:=d<;>rfl
 have f:∀ {w},Gos g q w 1 2->Gos {g with M:=xw,ad:=[],ae:=[]} ⟨q.H,q.aa,[],[]⟩ w 1 2:=λ{w} p=>by
  obtain rfl|⟨k,o,d,t,rfl⟩:=p;exact .inl rfl;refine .inr ⟨k,o,d,?_,Z5i⟩;obtain rfl|rfl:=d<;>exact t
 refine⟨⟨Xe.2 ?_,λk d=> ?_⟩,λk d o t=> ?_,λk d x l p j u w y=> ?_,?_⟩;simp[Zv,Z7v]at z⊢;omega;have h:k=1\/k=2\/k=3\/k=4:=Z0;obtain rfl|rfl|rfl|rfl:=h;exact b.af 1 Z0;exact b.af 2 Z0;exact Z6i 0;exact Z6i 0;have h:k=3\/k=4:=Z0;obtain rfl|rfl:=h<;>cases t
 have h:k=1\/k=2\/k=3\/k=4:=Z0;obtain rfl|rfl|rfl|rfl:=h;have:=b.ptr 1 Z0 x l p j u w y;let⟨a,n,m,B,C,em,r,_,A⟩:=b.toTld.ob (k:=1) Z0 l;simp[Xn]at r;unfold Yz at this⊢;rw[Z6h Z0,Z6h Z0]at this;rw[Z6h Z0,Z6h Z63];exact f this;have:=b.ptr 2 Z0 x l p j u w y;exact f this;cases l;cases l;have:=b.cx;simp[Yt,Yi];omega
structure ScanTo (h:Hp) (p:Pts) (g:Hp) (q:Pts):Prop where
 eq:scan1 h=g
 rt:Rt g q
 H:∃ws,I g.H=I h.H+ws/\∀j:Nat,(j:Int)<h.O->g.H[j]?=h.H[j]?
 aa:g.aa=h.aa
 E:g.E=h.E
 da:g.V=h.V/\g.cap=h.cap/\g.to=h.to/\g.O=h.O+1
 gx:∃r,q.H=p.H++r
 ie:q.aa=p.aa
 cx:g.M=xk->(I g.H:Int)+Yt q=I h.H+Yt p
 rc:(I g.H:Int)<=I h.H+Yt p
 via:∃(i:Nat) (w v:Int) (f:Hp) (s:Pts),h.O=i/\h.H[i]?=J w/\g=Yv {f with H:=f.H.set i v,O:=(i:Int)+1}/\(q.H=s.H/\q.aa=s.aa)/\(g.M=xk->q=s)/\((v=w/\f=h/\s=p)\/(XN s.H i=xk/\(Gos h p w 1 2\/Gos h p w 3 4)/\FwdTo h p w v f s))
def Rt.O(r:Rt h p)(C:h.M=xk):∃g q,ScanTo h p g q:=by
 let⟨i,u⟩:=Z6q r.dq;have a1:i<I h.H:=by have:=r.fq C;omega
 have G:=r.lu;have B:∀(f:Hp) (s:Pts),Body f s->UF f s->f.O=(i:Int)+1->f.M=xk->(i:Int)+1<=I f.H->(∀w∈f.E,Gos f s w 1 2)->I f.E<=16->∃q,Rt (Yv f) q/\(q.H=s.H/\q.aa=s.aa)/\((Yv f).M=xk->q=s):=by
  intro f s b o hs D W hr hn;unfold Yv;by_cases e:f.O=I f.H;rw[Z6k e];have b':=b.stop e;refine⟨_,⟨b',hn,by show 0<=f.O;omega,by show f.O<=I f.H;omega,Z1,Z5i,Z1,λw l=> ?_⟩,Z1,Z1⟩;obtain rfl|⟨k,o,T,A,rfl⟩:=hr w l;exact .inl rfl;refine .inr ⟨k,o,T,?_,?_⟩;obtain rfl|rfl:=T<;>exact A;obtain rfl|rfl:=T<;>rfl;rw[Z6h e];exact⟨s,⟨b,hn,Z0,Z0,Z0,Z5i,λ_=>o,hr⟩,Z1,Z1⟩
 have t:∀f:Hp,(Yv f).H=f.H/\(Yv f).aa=f.aa/\(Yv f).E=f.E/\(Yv f).V=f.V/\(Yv f).cap=f.cap/\(Yv f).to=f.to/\(Yv f).O=f.O:=λf=>by
  unfold Yv;split<;>exact⟨rfl,rfl,rfl,rfl,rfl,rfl,rfl⟩
 have l:h.H[i]?=J h.H[i]:=Z1;generalize h.H[i]=w at l;by_cases N:XN p.H i=xk;let⟨o,A,h1,h2⟩:=TX.1 N;let⟨a,n,m,ea,en,em,a0,_⟩:=r.toTld.ob (k:=1) Z0 A;have S:Gos h p w 1 2\/Gos h p w 3 4:=by
  have t1:=r.af 1 Z0;have:=r.ptr 1 Z0 o A (t1.bi o A) (i-a-1) Z0 w (by simp only[Xn];rw[ea,show(a:Int).toNat+1+(i-a-1)=i by omega];exact l);unfold Yz at this;rw[Z6h Z0,Z6k ⟨rfl,Z0⟩]at this;exact this
 let⟨v,g,q,f⟩:=r.toBody.dx r.cz S;have hs:=f.ext.O.trans u;let⟨ws,x⟩:=f.ext.H;let⟨rs,Y⟩:=f.ext.gx;have F:i<I g.H:=by rw[x,Z6L];omega
 have X:XN q.H i=xk:=TX.2 ⟨o,by rw[Y];exact Z7r _ A,h1,h2⟩;have b:=f.body.lr hs F f.rj X;have eq:scan1 h=Yv {g with H:=g.H.set i v,O:=(i:Int)+1}:=by
  unfold scan1;rw[G,u,Z6k N];simp only[Z6p,l,Z6K,f.fwd]
 have D:=f.ext.M.trans C;have W:Zv {g with H:=g.H.set i v,O:=(i:Int)+1}=Zv g:=by unfold Zv;simp
 have on:UF {g with H:=g.H.set i v,O:=(i:Int)+1} q:=by
  have:=f.dt<|r.dt C;unfold UF at this⊢;rw[W];exact this
 let⟨s,L,⟨Z,M⟩,z⟩:=B _ q b on rfl D Z5j (λw l=>(UD W).2<|f.ext.na Z0 Z0<|r.E w (by rw[<-f.ext.E];exact l)) (by show I g.E<=16;rw[f.ext.E];exact r.dj);let⟨y,H,K,O,P,Q,R⟩:=t {g with H:=g.H.set i v,O:=(i:Int)+1};rw[<-eq]at L y H K O P Q R z;have d:(scan1 h).H.length=I g.H:=by rw[y];simp
 refine⟨_,s,rfl,L,⟨I ws,by rw[d,x,Z6L],λj hj=> ?_⟩,H.trans f.ext.aa,K.trans f.ext.E,⟨O.trans f.ext.V,P.trans f.ext.cap,Q.trans f.ext.ou,by rw[R,u]⟩,Z5i,M.trans f.ext.ie,λh=> ?_,?_,i,w,v,g,q,u,l,eq,⟨Z,M⟩,z,Z5i⟩;rw[y];simp only;rw[Z6W Z0,x,Z6B Z0];rw[z h,d];exact f.ext.cx;rw[d];have:=f.ext.cx;omega;have b:=r.toBody.ph u N;have eq:scan1 h=Yv {h with O:=(i:Int)+1}:=by
  unfold scan1;rw[G,u,Z6h N]
 let⟨s,L,⟨Z,M⟩,z⟩:=B _ p b (r.dt C) rfl C Z63 r.E r.dj;let⟨y,H,K,O,P,Q,R⟩:=t {h with O:=(i:Int)+1};rw[<-eq]at L y H K O P Q R z;refine⟨_,s,rfl,L,Z5i,H,K,Z5i,Z5i,M,λh=> ?_,?_,i,w,w,h,p,u,l,?_,⟨Z,M⟩,z,Z1⟩;rw[z h,y];rw[y];simp only;omega;let⟨_,e⟩:=Z6d.1 l;rw[eq,<-e,List.set_getElem_self]
end
end
def LP{h:Hp}(a:h.M=xw):∀k,scanK h k=h
 |0=>rfl
 |k+1=>by unfold scanK;rw[a];simp
def Tu(h:Hp):∀k,scanK h (k+1)=if(scanK h k).M then scan1 (scanK h k)else scanK h k
 |0=>by unfold scanK;cases a:h.M<;>simp[scanK,a]
 |k+1=>by
  cases a:h.M with
  |false=>rw[LP a,LP a,a];simp
  |true=>
   have e:∀j,scanK h (j+1)=scanK (scan1 h) j:=λj=>by rw[scanK.eq_2,a];simp
   rw[e<|k+1,e k];exact Tu (scan1 h) k
def F2(h:Hp)(a:Nat):∀b,scanK h (a+b)=scanK (scanK h a) b
 |0=>rfl
 |b+1=>by rw[<-Z77,Tu,Tu,F2 h a b]
structure ScansTo (h:Hp) (p:Pts) (k:Nat) (g:Hp) (q:Pts):Prop where
 rt:Rt g q
 len:I h.H<=I g.H
 keep:∀j:Nat,(j:Int)<h.O->g.H[j]?=h.H[j]?
 aa:g.aa=h.aa
 E:g.E=h.E
 da:g.V=h.V/\g.cap=h.cap/\g.to=h.to
 O:h.O<=g.O/\g.O<=h.O+k
 gx:∃r,q.H=p.H++r
 ie:q.aa=p.aa
 fq:g.M=xk->h.M=xk/\g.O=h.O+k/\(I g.H:Int)+Yt q=I h.H+Yt p
 rc:(I g.H:Int)<=I h.H+Yt p
 whole:g.M=xw->h.M=xk->g.O=I g.H
def Rt.ei{h:Hp}{p:Pts}(r:Rt h p):∀k,∃q,ScansTo h p k (scanK h k) q
 |0=>⟨p,r,Z6i _,λ_ _=>rfl,rfl,rfl,⟨rfl,rfl,rfl⟩,⟨by show h.O<=h.O;omega,by show h.O<=h.O+((0:Nat):Int);omega⟩,⟨[],Z1⟩,rfl,λa=>⟨a,by show h.O=h.O+((0:Nat):Int);omega,rfl⟩,by show(I h.H:Int)<=_;omega,λa l=>(by rw[show scanK h 0=h from rfl,l]at a;cases a)⟩
 |k+1=>by
  obtain⟨q,s⟩:=r.ei k;rw[Tu];generalize scanK h k=g at*;have o:=s.O.1;have y:=s.O.2;cases a:g.M with
  |false=>
   simp only[Z73,Z7K];exact⟨q,s.rt,s.len,s.keep,s.aa,s.E,s.da,⟨o,Z0⟩,s.gx,s.ie,λh=>(by rw[a]at h;cases h),s.rc,λ_ h=>s.whole a h⟩
  |true=>
   simp only[Z7m];obtain⟨K,D,f⟩:=s.rt.O a;obtain⟨t,H,c3⟩:=s.fq a;rw[f.eq];obtain⟨M,z,n⟩:=f.H;obtain⟨F,u⟩:=s.gx;obtain⟨G,w⟩:=f.gx;obtain⟨A,B,C,L⟩:=f.da;refine⟨D,f.rt,by have:=s.len;omega,λj x=>(n j Z0).trans<|s.keep j x,f.aa.trans s.aa,f.E.trans s.E,⟨A.trans s.da.1,B.trans s.da.2.1,C.trans s.da.2.2⟩,⟨Z0,Z0⟩,⟨F++G,by rw[w,u,Z6Y]⟩,f.ie.trans s.ie,λd=>⟨t,Z0,by have:=f.cx d;omega⟩,by have:=f.rc;omega,λd _=>(f.rt.df d).1⟩
def Z0f{h:Hp}{p:Pts}(a:h.ok)(r:Rt h p)(y:h.M=xk):(scan1 h).ok:=by
 have t:=r.lu;obtain⟨i,o⟩:=Z6q r.dq;have l:i<I h.H:=by have:=r.fq y;omega
 obtain⟨u,q⟩:∃u,h.H[i]?=J u:=⟨_,Z6b l⟩;have z:=a.H;have n:∀g:Hp,g.ok->(Yv g).ok:=λg d=>by
  unfold Yv;split;exact⟨d.V,d.cap,d.to,d.O,d.H,d.aa,Z1,Z1,d.E,d.dm,d.db,Z1,Z1,d.cg⟩;exact d
 have k:ZP<|h.O+1:=⟨Z0,Z0⟩;unfold scan1;rw[o,Z6p,q,Z6K];rw[o]at k;have f:=QV a<|a.dm u<|Z6n q;split;refine n _ ?_;obtain⟨f,x⟩:=f
 exact⟨f.V,f.cap,f.to,k,by simp;exact f.H,f.aa,f.ad,f.ae,f.E,λw t=>by
  obtain j|j:=Z6Z t;exact f.dm w j;rw[j];exact x,f.db,f.gy,f.gw,f.cg⟩
 exact n _ ⟨a.V,a.cap,a.to,k,a.H,a.aa,a.ad,a.ae,a.E,a.dm,a.db,a.gy,a.gw,a.cg⟩
def Sb{h:Hp}{p:Pts}(a:h.ok)(r:Rt h p):∀k,(scanK h k).ok
 |0=>a
 |k+1=>by
  obtain⟨q,s⟩:=r.ei k;have:=Sb a r k;rw[Tu];generalize scanK h k=g at*;cases d:g.M with
  |false=>simpa using this
  |true=>simpa using Z0f this s.rt d
end Vm
end
section
namespace Vm
open Go Go.Proofs Go.RowKit
structure Now (B:Nat) (w:World) (b:Nat) (h:Hp) (x:Nat->Value):Prop where
 fp:w.heap[b]?=J (.cells #[.int .u64 h.V,.int .i64 h.cap,.int .i64 h.to,.bool h.M,.int .i64 h.O,x 0,x 1,x 2,x 3,x 4] 141 (0,0))
 own:HOwn B w h x
 ae:∀j,j<5->∀c,(x j).ownBlock=J c->c≠b
 new:B<=b
def Tw(h:Hp)(part:Int)(a n:Nat):Int:=(X6 (Y1 (Zv<|Xl h part a n) 1<|I h.H).1).1
def Gi(B:Nat)(w:World)(b:Nat)(h:Hp)(p a n:Nat)(e:Ending)(w':World):Prop:=
 ∃d,e=.returned (.int .u64<|Tw h (p+1) a n)/\Below B w w'/\Now B w' b (Yr (Xl h (p+1) a n) (p+1)<|(zr (Zu h p) a n).set a<|Tw h (p+1) a n) d
def Z1B{P}w{o:Oper}{a K Q}s t
  (d:o.op=.call {callee:=.builtin .clear,args:=#[s],argTypes:=#[t]}) vs (g:a.eval s=vs)
  w' (f:(Builtin.clear_ #[t] o.type #[vs]).run P w=.ok (.tuple #[]) w') (h:K (a.put o.dst<|.tuple #[]) w'):o.wp P a w K Q:=by
 unfold Oper.wp execOp;simp[d,resolve,invoke,builtin,g,f];exact h
def Z1x{P}w{ops d o a Q}(f:o.guard=U)s t
  (g:o.op=.call {callee:=.builtin .clear,args:=#[s],argTypes:=#[t]}) vs (k:a.eval s=vs)
  w' (j:(Builtin.clear_ #[t] o.type #[vs]).run P w=.ok (.tuple #[]) w') (h:wpList P ops Q d (a.put o.dst<|.tuple #[]) w'):wpList P ops Q (o::d) a w:=
 wpList_plain f λ_ l=>Z1B w s t g vs k w' j Z5i
def Fa{b c}(a:c≠b):∀d o (w:World),(w.setCells b o d).heap[c]?=w.heap[c]?
 | [],_,_=>rfl
 |v::r,o,w=>by
  show((w.setCell ⟨b,o,U⟩ v).setCells b _ r).heap[c]?=_;rw[Fa a r];exact Z6w _ _ _ _ a
def Fb b:∀a o (w:World),xz (xj<|w.setCells b o a)=xz (xj w)
 | [],_,_=>rfl
 |v::r,o,w=>by
  show xz (xj<|(w.setCell ⟨b,o,U⟩ v).setCells b _ r)=_;rw[Fb b r];simp
def F7{B b}(d:B<=b):∀f o a w,Below B a w->Below B a (w.setCells b o f)
 | [],_,_,_,h=>h
 |v::r,o,a,w,h=>F7 d r _ a _<|h.setCell d _
def Di{B g len cap L}a:∀n k (w:World),a+k+n<=len->w.ownsRow B 24 1 (.slice (J ⟨g,0,U⟩) len cap) len (Y6 .u64<|zr L a k)->
  (w.setCells g (a+k)<|List.replicate n<|.int .u64 0).ownsRow B 24 1 (.slice (J ⟨g,0,U⟩) len cap) len (Y6 .u64<|zr L a<|k+n)
 |0,k,w,_,h=>h
 |n+1,k,w,j,h=>by
  have d:=(h.stored (a+k)<|.int .u64 0).1;have f:(Y6 .u64<|zr L a k).set (a+k) (.int .u64 0)=Y6 .u64 (zr L a<|k+1):=by rw[zr,Jl]
  rw[f]at d;have:=Di a n _ _ Z0 d;rw[show k+1+n=k+(n+1)by omega]at this;exact this
def IL(w:World)(B b:Nat)(h:Hp)(x:Nat->Value)(r:Now B w b h x)(hB:B<=xz (xj w))(hh:h.ok)(p a n:Nat)(hp:p=2\/p=3)(Y:0<n)(hn:n<=1000)(f5:(n:Int)<=Xh (Zv h))
  (g cap:Nat) (hx:x p=.slice (J ⟨g,0,U⟩) (I<|Zu h p) cap) (j0:a+n<=I (Zu h p)) (c':Nat):
  Calls Tryz.prog 57 #[.pointer<|J ⟨b,0,U⟩,.slice (J ⟨g,a,U⟩) n c'] w (Gi B w b h p a n):=by
 obtain⟨iU,e9,i7,i4,j1⟩:=info_parts N1;have k4:I (Zu h 0)<=1000000:=VY hh 0;obtain⟨v1,w1,i3,f4,C,b2⟩:=Z01 (P:=Tryz.prog) (w:=w) (T:=29) (tI:=3) (ty:=29) Tryz.underlying29 Tryz.underlying3 e9 i7 rfl rfl i4 j1 (r.own.own 0 Z0) hB Y Z0 .i64;obtain⟨a0,q0,e0⟩:=ZV<|r.own.own 0 Z0;have b0:w.cell? ⟨b,5,U⟩=J (x 0):=by rw[Z6j _ _ _ _ _ _ r.fp];rfl
 have f0:w.frozen? ⟨b,5,U⟩=xw:=Y7 r.fp;have e5:=ZL r.fp;have K:J b≠(x 0).ownBlock:=λe=>r.ae 0 Z0 b e.symm rfl;have c1:=(C.cell_far ⟨b,5,U⟩ e5 K).trans b0;have f1:=(C.frozen_far ⟨b,5,U⟩ e5 K).trans f0;rw[e0]at i3 b0 c1;have i0:I (Y6 .u64<|Zu h 0)=I (Zu h 0):=by simp[Y6]
 obtain⟨_,k0⟩|⟨t,q1,A,j9,b5,g6,j7,j8,b3,f9⟩:=f4.2;omega;subst j9;have k1:¬q1=I (Zu h 0):=Z0;have X:t≠b:=by
  intro e;obtain y|⟨_,y⟩:=b2;exact K (by rw[<-y,e];rfl);have:=(y.lt t rfl).1;omega
 have e7:g≠b:=r.ae p Z0 g (by rw[hx];rfl);have h7:g<xz (xj w):=((r.own.own p Z0).lt g (by rw[hx];rfl)).2;have e8:J g≠(x 0).ownBlock:=λe=>r.own.apart 0 p Z0 Z0 g e.symm (by rw[hx];rfl);have b6:g≠t:=by
  intro e;obtain y|⟨_,y⟩:=b2;exact e8 (by rw[<-y,e];rfl);have:=(y.lt t rfl).1;omega
 obtain⟨w2,M⟩:∃w2,w2=w1.setCell ⟨b,5,U⟩ (.slice (J ⟨t,0,U⟩) (I (Zu h 0)+n) q1):=⟨_,rfl⟩;have S:w2.heap[t]?=J (.cells A 24 (0,0)):=by rw[M,Z6w _ _ _ _ X];exact g6
 have h5:∀c,c≠b->c<xz (xj w)->J c≠(x 0).ownBlock->w2.heap[c]?=w.heap[c]? :=λc D h2 h3=>by
  rw[M,Z6w _ _ _ _ D,C.block c h2 h3]
 have Q:w2.heap[b]?=J (.cells #[.int .u64 h.V,.int .i64 h.cap,.int .i64 h.to,.bool h.M,.int .i64 h.O,.slice (J ⟨t,0,U⟩) (I (Zu h 0)+n) q1,x 1,x 2,x 3,x 4] 141 (0,0)):=by
  have:=(C.block b e5 K).trans r.fp;rw[M];simp[World.setCell,Z6I,this]
 have i8:w2.cell? ⟨b,5,U⟩=J (.slice (J ⟨t,0,U⟩) (I (Zu h 0)+n) q1):=by rw[Z6j _ _ _ _ _ _ Q];rfl
 have Z:w2.ownsRow B 24 1 (x p) (I<|Zu h p)<|Y6 .u64<|Zu h p:=Yx (r.own.own p Z0) λc f=>by
  rw[hx]at f;cases f;exact h5 g e7 h7 e8
 obtain⟨O,b1⟩:∃O,O=Y6 .u64 (((Zu h p).take<|a+n).drop a):=⟨_,rfl⟩;have R:I O=n:=by rw[b1];simp[Y6];omega
 have i5:∀j v,O[j]?=J v->w2.cell? ((⟨g,a,U⟩:Addr).add j)=J v:=by
  intro j v hv;have o:j<n:=by rw[<-R];exact(Z6d.1 hv).1
  rw[hx]at Z;have:=Z.cellAt (a+j) Z0;rw[Z7L,this];rw[b1]at hv;simp only[Y6]at hv⊢;rw[<-hv];simp[Z6O,show a+j<a+n by omega]
 obtain⟨q,N⟩:∃q,q=w2.setRow t (A.toList.take (I<|Zu h 0)++(O++A.toList.drop (I (Zu h 0)+I O))).toArray:=⟨_,rfl⟩;have b4:I (Zu h 0)+I O<=A.size:=by rw[R];simp at b3;omega
 have i2:∀v∈O,v.oneCell'=xk:=by
  intro v hv;rw[b1]at hv;obtain⟨_,_,rfl⟩:=Z6F.1 hv;rfl
 have i1:I O=Nat.min n n:=by rw[R];simp
 have i6:(Tryz.prog.info? 24).map (·.size)=J 1:=by rw[e9];simp[i4]
 have d:q.heap[b]?=J (.cells #[.int .u64 h.V,.int .i64 h.cap,.int .i64 h.to,.bool h.M,.int .i64 h.O,.slice (J ⟨t,0,U⟩) (I (Zu h 0)+n) q1,x 1,x 2,x 3,x 4] 141 (0,0)):=by
  rw[N,Z7Y _ _ _ _ X.symm];exact Q
 have h8:∀c,c≠b->c≠t->c<xz (xj w)->J c≠(x 0).ownBlock->q.heap[c]?=w.heap[c]? :=λc D h2 h3 h4=>by
  rw[N,Z7Y _ _ _ _ h2];exact h5 c D h3 h4
 have k2:xz (xj w)<=xz (xj q):=by
  have:=C.size;have e2:xz (xj w2)=xz (xj w1):=by rw[M];simp[World.setCell]
  have e3:xz (xj q)=xz (xj w2):=by rw[N];simp[World.setRow]
  omega
 have j4:Zu (Xl h (p+1) a n) 0=Zu h 0++((Zu h p).take<|a+n).drop a:=by
  obtain rfl|rfl:=hp<;>rfl
 have h9:∀j,j≠0->Zu (Xl h (p+1) a n) j=Zu h j:=λj o=>by
  unfold Zu Xl;simp[o]
 have a1:∀j,j<5->q.ownsRow B 24 1 (if j=0 then .slice (J ⟨t,0,U⟩) (I (Zu h 0)+n) q1 else x j) (I<|Zu (Xl h (p+1) a n) j) (Y6 .u64<|Zu (Xl h (p+1) a n) j):=by
  intro j o;by_cases f2:j=0;subst f2;rw[Z6k rfl,j4];have hd:I (((Zu h p).take<|a+n).drop a)=n:=Z5j;refine⟨by simp[Y6],.inr ⟨t,q1,(A.toList.take (I<|Zu h 0)++(O++A.toList.drop (I (Zu h 0)+I O))).toArray,?_,b5,?_,?_,j8,?_,?_⟩⟩;rw[Z6L,hd];rw[N];exact Z9H _ _ _ _ _ _ S;rw[Z6L,hd];exact j7;simp[R]at b3 b4⊢;omega;have ht:A.toList.take (I<|Zu h 0)=Y6 .u64 (Zu h 0):=by
   have:=Z7J (List.take<|I<|Zu h 0) f9;rw[List.take_take,Z93 Z0]at this;rw[this,Z9B i0]
  rw[Z6L,hd,ht];simp only[Z9I];rw[<-Z6Y,Z9B (by simp[i0,R]),b1];simp[Y6];rw[Z6h f2,h9 j f2];have ho:=r.own.own j o
  exact Yx ho λc f=>h8 c (r.ae j o c f) (λe=>by
   obtain y|⟨_,y⟩:=b2;exact r.own.apart 0 j Z0 o c (by rw[<-y,e];rfl) f;have D:=(y.lt t rfl).1;have h2:=(ho.lt c f).2;omega) (ho.lt c f).2 (λe=>r.own.apart 0 j Z0 o c e.symm f)
 have g7:∀j,0<j->j<5->(x j).ownBlock≠J t:=λj h0 o f=>by
  obtain y|⟨_,y⟩:=b2;exact r.own.apart 0 j h0 o t (by rw[<-y];rfl) f;have D:=(y.lt t rfl).1;have h2:=((r.own.own j o).lt t f).2;omega
 have j2:∀j,j<5->j≠p->(x j).ownBlock≠J g:=λj o K f=>by
  have h6:(x p).ownBlock=J g:=by rw[hx];rfl
  obtain D|D:=Z89 K;exact r.own.apart j p D Z0 g f h6;exact r.own.apart p j D o g h6 f
 have g9:B<=g:=((r.own.own p Z0).lt g (by rw[hx];rfl)).1;have b7:=r.own.own p Z0;rw[hx]at b7;have a2:∀W:World,W.heap[g]?=w.heap[g]? ->W.ownsRow B 24 1 (.slice (J ⟨g,0,U⟩) (I<|Zu h p) cap) (I<|Zu h p) (Y6 .u64<|Zu h p):=λW hW=>Yx b7 λc f=>by
  cases f;exact hW
 have j5:I (Y6 .u64<|Zu h p)=I (Zu h p):=by simp[Y6]
 have l:∀W:World,W.heap[g]?=w.heap[g]? ->(∀j,j<n->(W.cell? ⟨g,a+j,U⟩).isSome=xk)/\(∀j,j<n->W.frozen? ⟨g,a+j,U⟩=xw):=λW hW=>⟨λj o=>by
  rw[(a2 W hW).cellAt (a+j) Z0];simp[j5];omega,λj o=>(a2 W hW).frozenAt _⟩
 have g8:q.heap[g]?=w.heap[g]? :=h8 g e7 b6 h7 e8;have HN:=Z6e r;have HO:=Z6e f4;have HG:=Z6e C;have g2:=Z6e M;have g3:=Z6e N;have g1:=Z6e a1;have d0:q.cell? ⟨b,0,U⟩=J (Value.int .u64 h.V):=Z5s;have d1:q.cell? ⟨b,1,U⟩=J (Value.int .i64 h.cap):=Z5s;have d2:q.cell? ⟨b,2,U⟩=J (Value.int .i64 h.to):=Z5s;have d3:q.cell? ⟨b,3,U⟩=J (Value.bool h.M):=Z5s;have d4:q.cell? ⟨b,4,U⟩=J (Value.int .i64 h.O):=Z5s;have d5:q.cell? ⟨b,5,U⟩=J (Value.slice (J ⟨t,0,U⟩) (I (Zu h 0)+n) q1):=Z5s;have d6:q.cell? ⟨b,6,U⟩=J (x 1):=Z5s;have d7:q.cell? ⟨b,7,U⟩=J (x 2):=Z5s;have d8:q.cell? ⟨b,8,U⟩=J (x 3):=Z5s;have d9:q.cell? ⟨b,9,U⟩=J (x 4):=Z5s;have j6:(Xl h (p+1) a n).ok:=CD hh (by obtain rfl|rfl:=hp<;>exact j0) f5 Y;clear r f4 C M N a1;go_enter Tryz.func57,Tryz.ntmps57
 go_wp2_with (first
  |(at_builtin;refine Lib.wpList_append_run _ rfl _ _ 29 3 rfl _ _ rfl rfl _ _ i3 ?_)
  |(rw[<-g2.out];refine wpList_copy_own rfl _ _ 29 29 rfl 24 Tryz.underlying29 i6 t (I<|Zu h 0) n (q1- I (Zu h 0)) ⟨g,a,U⟩ n c' rfl rfl A 24 S O i1 i5 b4 i2 ?_;rw[<-g3.out])
  |(go_at_call 19;refine(Rq (h:=Xl h (p+1) a n) (x:=λj=>if j=0 then .slice (J ⟨t,0,U⟩) (I (Zu h 0)+n) q1 else x j) (G:=λc=>B<=c/\c<xz (xj q)) (λc f=>f.2)<|λj o=>U1 (g1.out j o) (λc D h2=>⟨D,h2⟩)).mono ?_;rintro e w4 ⟨rfl,g5⟩;have z:=Z6e g5;clear g5)
  |(go_at_call 31;refine(AG j6.al _ _ _).mono ?_;rintro e F ⟨rfl,a8⟩;have H:F.heap[g]?=w.heap[g]? :=(a8.block g (by have:=z.out.size;omega)).trans<|(z.out.block g<|by omega).trans g8;have k6:xz (xj q)<=xz (xj F):=Z6H z.out.size a8.size;have a6:=Z6e a8;clear a8;obtain⟨w6,a5⟩:∃w6,w6=F.setCells g a (List.replicate n<|.int .u64 0):=⟨_,rfl⟩;have k7:xz (xj w6)=xz (xj F):=by {rw[a5];exact Fb _ _ _ _};have c6:w6.cell? ⟨g,a,U⟩=J (.int .u64 0):=by {rw[a5];have:=World.cell?_setCells_in g (List.replicate n<|Value.int .u64 0) a F (by simpa using(l F H).1) 0 (by simpa using Y);simpa using this};have f6:w6.frozen? ⟨g,a,U⟩=xw:=by {rw[a5,World.frozen?_setCells];exact(l F H).2 0 Y};have a7:=Z6e a5;clear a5)
  |(refine Z1x _ rfl _ 29 rfl _ rfl _ (Lib.run_clear_slice _ _ 24 _ (.int .u64 0) Tryz.underlying29 (LO e9 i7) rfl rfl g a n c' Y (l F H).1 (l F H).2) ?_;rw[<-a7.out])
  |(go_at_call 32;refine(Eu AH _).mono ?_;rintro e w7 ⟨rfl,a9⟩;have c7:=(a9.cell (p:=⟨g,a,U⟩) (by show g<xz (xj w6);omega)).trans c6;have f7:=(a9.frozen (p:=⟨g,a,U⟩) (by show g<xz (xj w6);omega)).trans f6;have b8:=Z6e a9;clear a9))
 go_ret
 have b9:Below B w q:=by
  rw[g3.out,g2.out];exact Go.below_setRow (Below.setCell (p:=⟨b,5,U⟩) ((Z6r B w).grown HG.out hB<|λk hk=>((HN.out.own.own 0 Z0).lt k hk).1) HN.out.new _) b5 _
 have i9:B<=xz (xj q):=Z0;have c0:Below B w F:=(b9.trans<|z.out.mono i9).trans<|a6.out.mono (by have:=z.out.size;omega);have c2:Below B w w6:=by rw[a7.out];exact F7 g9 _ _ _ _ c0
 have e4:Below B w w7:=c2.trans<|b8.out.mono Z0;have k5:=z.out.size;have k3:=a6.out.size;have g4:∀(c:Nat) (u:Value),c≠g->c<xz (xj q)->(w7.setCell ⟨g,a,U⟩ u).heap[c]?=q.heap[c]? :=λc u D h2=>by
  rw[Z6w _ _ _ _ D,b8.out.block c Z0,a7.out,Fa D,a6.out.block c Z0,z.out.block c h2]
 have H:F.heap[g]?=w.heap[g]? :=(a6.out.block g Z0).trans<|(z.out.block g Z0).trans g8;have a3:=Di (L:=Zu h p) a n 0 F Z0<|a2 F H;have e6:F.setCells g (a+0) (List.replicate n<|.int .u64 0)=w6:=a7.out.symm;rw[e6,Z6V]at a3;have f8:=Yx (w':=w7) a3 λc f=>by
  cases f;exact b8.out.block g Z0
 have a4:=(f8.stored a<|.int .u64<|Tw h (p+1) a n).1;rw[<-Jl]at a4;refine⟨λj=>if j=0 then .slice (J ⟨t,0,U⟩) (I (Zu h 0)+n) q1 else x j,rfl,e4.setCell g9 _,?_,⟨?_,?_⟩,?_,HN.out.new⟩;rw[g4 b _ (λe=>e7 e.symm) Z0,d];obtain rfl|rfl:=hp<;>rfl;intro j o;by_cases f3:j=p;subst f3;have y:Zu (Yr (Xl h (j+1) a n) (j+1)<|(zr (Zu h j) a n).set a<|Tw h (j+1) a n) j=(zr (Zu h j) a n).set a (Tw h (j+1) a n):=by
  obtain rfl|rfl:=hp<;>rfl
 rw[y,Z6h Z0,hx,Z7g,Kg];exact a4;have y:Zu (Yr (Xl h (p+1) a n) (p+1)<|(zr (Zu h p) a n).set a<|Tw h (p+1) a n) j=Zu (Xl h (p+1) a n) j:=by
  have:j=0\/j=1\/j=2\/j=3\/j=4:=Z0;obtain rfl|rfl:=hp<;>obtain rfl|rfl|rfl|rfl|rfl:=this<;>first|rfl|exact(f3 rfl).elim
 rw[y];have ho:=g1.out j o;refine Yx ho λc f=>g4 c _ (λe=> ?_) (ho.lt c f).2;subst e;by_cases h0:j=0;rw[Z6k h0]at f;cases f;exact b6 rfl;rw[Z6h h0]at f;exact j2 j o f3 f;intro i j j3 o c f;rw[Z6h (Z0:¬j=0)];by_cases h0:i=0;rw[Z6k h0]at f;cases f;exact g7 j Z0 o;rw[Z6h h0]at f;exact HN.out.own.apart i j j3 o c f;intro j o c f;by_cases h0:j=0;rw[Z6k h0]at f;cases f;exact X;rw[Z6h h0]at f;exact HN.out.ae j o c f
end Vm
namespace Vm
open Go Go.Proofs Go.RowKit
def Ms(w:World)(B b:Nat)(h:Hp)(x:Nat->Value)(j:Now B w b h x)(o:h.ok)(p a:Nat)(q:p=2\/p=3)(g cap:Nat)
  (hx:x p=.slice (J ⟨g,0,U⟩) (I<|Zu h p) cap) (u:a< I (Zu h p)):
  Calls Tryz.prog 54 #[.pointer<|J ⟨b,0,U⟩,.agg #[.int .i64<|(p:Int)+1,.int .i64 a]] w λe r=>e=.returned (.slice (J ⟨g,a,U⟩) (I (Zu h p)-a)<|cap-a)/\Below (xz<|xj w) w r:=by
 have f:=ZL j.fp;have y:=VY o p;have l:I (Zu h p)<=cap:=by
  have:=(j.own.own p Z0).2;rw[hx]at this;obtain⟨k,_⟩|⟨_,_,_,k,_,_,n,_⟩:=this;cases k;cases k;exact n
 obtain rfl|rfl:=q
 .have t:(w.alloc<|.cells #[.int .i64 3,.int .i64 a] 86).cell? ⟨b,7,U⟩=J (.slice (J ⟨g,0,U⟩) (I<|Zu h 2) cap):=by
   rw[Z7c _ _ _ f,Z6j _ _ _ _ _ _ j.fp,<-hx];rfl
  have d:(I (Zu h 2):Int)<=9223372036854775807:=Z0;go_enter Tryz.func54,Tryz.ntmps54;go_wp2;go_region;go_wp2;go_ret
  exact⟨rfl,((Z6r _ _).alloc (Z6i _) _).drew⟩
 .have c8:(w.alloc<|.cells #[.int .i64 4,.int .i64 a] 86).cell? ⟨b,8,U⟩=J (.slice (J ⟨g,0,U⟩) (I<|Zu h 3) cap):=by
   rw[Z7c _ _ _ f,Z6j _ _ _ _ _ _ j.fp,<-hx];rfl
  have d:(I (Zu h 3):Int)<=9223372036854775807:=Z0;go_enter Tryz.func54,Tryz.ntmps54;go_wp2;go_region;go_wp2;go_ret
  exact⟨rfl,((Z6r _ _).alloc (Z6i _) _).drew⟩
end Vm
namespace Vm
open Go Go.Proofs Go.RowKit
def FwdPost(w:World)(r:Int×Hp×Int)(e:Ending)(w':World):Prop:=
 ∃x,e=.returned (.tuple #[.int .u64 r.1,Zx r.2.1 x,.int .i64 r.2.2])/\Below (xz<|xj w) w w'/\HOwn (xz<|xj w) w' r.2.1 x
def S6{B' B}{w:World}{e n v l}(h:w.ownsRow B' e 1 v n l)(k:∀c,B'<=c->c<xz (xj w)->B<=c/\c<xz (xj w)):w.ownsRow B e 1 v n l:=by
 refine⟨h.1,?_⟩;obtain d|⟨g,cap,a,j,o,f,r⟩:=h.2;exact .inl d;exact .inr ⟨g,cap,a,j,Z5h,f,r⟩
def UC w' G:∀j,j<5->Rd w' G (.sl<|(Zu Hp.zero j).map vu) (.slice U 0 0):=λj a=>by
 have:Zu Hp.zero j=[]:=by
  unfold Zu Hp.zero;split;rfl;split;rfl;split;rfl;split<;>rfl
 rw[this];exact .nil _ _ Z5G
def Gb B w':HOwn B w' Hp.zero (λ_=>.slice U 0 0):=⟨λj d=>by
 have:Zu Hp.zero j=[]:=by
  unfold Zu Hp.zero;split;rfl;split;rfl;split;rfl;split<;>rfl
 rw[this];exact Z7e _ _ _ _,λi j _ _ c a=>by cases a⟩
def Sk(w:World)(o:Obj):((w.alloc o).alloc<|.cells #[.int .u64 0,.int .i64 0,.int .i64 0,.bool xw,.int .i64 0,.slice U 0 0,.slice U 0 0,.slice U 0 0,.slice U 0 0,.slice U 0 0] 31).heap[xz (xj w)+1]?=J (.cells ZE 31 (0,0)):=by
 have e:xz (xj<|w.alloc o)=xz (xj w)+1:=Z1;have:=Z6u (w.alloc o)<|.cells ZE 31;rw[e]at this;exact this
end Vm
namespace Vm
open Go Go.Proofs Go.RowKit
def Ae(h:Hp)(x:Nat->Value):Obj:=.cells #[.int .u64 h.V,.int .i64 h.cap,.int .i64 h.to,.bool h.M,.int .i64 h.O,x 0,x 1,x 2,x 3,x 4] 141
def On{B a h x}(f:HOwn B a h x)(k:B<=xz (xj a)):Now B (a.alloc<|Ae h x) (xz<|xj a) h x:=by
 refine⟨Z6u a _,⟨λj d=> ?_,f.apart⟩,λj d c g=> ?_,k⟩;exact Yx (f.own j d) λc g=>Z6m _ _ _ ((f.own j d).lt c g).2;have:=((f.own j d).lt c g).2;omega
def Bb(W:World):W.drew.heap=W.heap:=rfl
def PG{w2:World}{b c:Nat}(a:c≠b){v0 v1 v2 v3 v4 v5 v6 v7 v8 v9:Value}:(Uv w2 b v0 v1 v2 v3 v4 v5 v6 v7 v8 v9).drew.heap[c]?=w2.heap[c]? :=by
 rw[Bb];exact XK a
def T5{w:World}{B n q e z a v xs}(h:w.ownsRow B e z v n xs)(j:v=.slice a n q)(l:0<n):∃g,a=J ⟨g,0,U⟩:=by
 subst j;obtain⟨_,k⟩|⟨g,cap,d,f,_⟩:=h.2;omega;cases f;exact⟨g,rfl⟩
def Dg{w:World}{B n q e z a xs}(h:w.ownsRow B e z (.slice a n q) n xs)(o:0<n):n<=q/\q<=maxLen:=by
 obtain⟨_,l⟩|⟨g,cap,d,k,_,_,f,j,_⟩:=h.2;omega;cases k;exact⟨f,j⟩
def Vn{w:World}{B g cap l}(h:w.ownsRow B 24 1 (.slice (J ⟨g,0,U⟩) (I l) cap) (I l)<|Y6 .u64 l){i v}(a:l[i]?=J v):w.cell? ⟨g,i,U⟩=J (.int .u64 v):=by
 let⟨d,f⟩:=Z6d.1 a;rw[h.cellAt i Z0];simp[Y6,a]
abbrev U8:=List<|Nat×Array Value×TypeId
structure Kp (w W:World) (L:U8):Prop where
 az:Below (xz<|xj w) w W
 row:∀x∈L,W.heap[x.1]?=J (.cells x.2.1 x.2.2 (0,0))
def Kf(W:World):U8->Prop
 | []=>True
 |x::L=>((∀j,W.cell? ⟨x.1,j,U⟩=x.2.1[j]?)/\∀j,W.frozen? ⟨x.1,j,U⟩=xw)/\Kf W L
def Kp.below{w W W':World}{L:U8}(k:Kp w W L)(a:Below (xz<|xj W) W W'):Kp w W' L:=⟨k.az.trans<|a.mono k.az.size,λx d=>(a.block _<|ZL<|k.row x d).trans<|k.row x d⟩
def Kp.alloc{w W:World}{L:U8}(k:Kp w W L)(cs:Array Value)(T:TypeId){n:Nat}(d:xz (xj W)=n:=by first|rfl):Kp w (W.alloc<|.cells cs T)<|(n,cs,T)::L:=by
 subst d;refine⟨k.az.alloc k.az.size _,λx a=> ?_⟩;obtain rfl|a:=Z6S.1 a;exact Z6u W _;rw[Z6m _ _ _<|ZL<|k.row x a];exact k.row x a
def Kp.F{w W:World}:∀ {L:U8},Kp w W L->Kf W L
 | [],_=>trivial
 |x::L,k=>⟨⟨λj=>Z6j _ _ _ _ _ _<|k.row x<|.head _,λj=>Y7<|k.row x<|.head _⟩,Kp.F ⟨k.az,λy a=>k.row y<|.tail _ a⟩⟩
def Now.below{B b:Nat}{W W':World}{h:Hp}{x:Nat->Value}(s:Now B W b h x)(a:Below (xz<|xj W) W W'):Now B W' b h x:=
 ⟨(a.block _<|ZL s.fp).trans s.fp,⟨λj d=>Yx (s.own.own j d) λc f=>a.block _ ((s.own.own j d).lt c f).2,s.own.apart⟩,s.ae,s.new⟩
abbrev X8(h:Hp)(a:Nat->Option Addr)(q:Nat->Nat):Nat->Value:=λj=>.slice (a j) (I<|Zu h j)<|q j
def HOwn.ip{B:Nat}{w:World}{h:Hp}{x:Nat->Value}(o:HOwn B w h x):∃a q,Zx h x=Zx h (X8 h a q)/\HOwn B w h (X8 h a q):=by
 have:∀j,∃p:Option Addr×Nat,j<5->x j=.slice p.1 (I<|Zu h j) p.2:=λj=>by
  by_cases d:j<5;obtain⟨a,q,e⟩:=ZV<|o.own j d;exact⟨(a,q),λ_=>e⟩;exact⟨(U,0),λh=>absurd h d⟩
 obtain⟨f,e⟩:=Z9o this;refine⟨λj=>(f j).1,λj=>(f j).2,?_,λj d=> ?_,λi j g d c k=> ?_⟩;simp only[Zx,e 0 Z0,e 1 Z0,e 2 Z0,e 3 Z0,e 4 Z0];have:=o.own j d;rwa[e j d]at this;have:=o.apart i j g d c;rw[e i Z0,e j d]at this;exact this k
def Z1K{w W:World}{L:U8}(k:Kp w W L){rb:Nat}(a:xz (xj w)<=rb){r:Int×Hp×Int}{c:Int}(e:r=(0,Hp.zero,c)):
  FwdPost w r (.returned<|.tuple #[.int .u64 0,.agg ZE,.int .i64 r.2.2]) (Uv W rb (.int .u64 0) (.int .i64 0) (.int .i64 0) (.bool xw) (.int .i64 0) (.slice U 0 0) (.slice U 0 0) (.slice U 0 0) (.slice U 0 0)<|.slice U 0 0):=by
 subst e;exact⟨λ_=>.slice U 0 0,by simp[Zx,Hp.zero,ZE],XJ k.az a,Gb _ _⟩
def FwdPost.drew{w W:World}{r:Int×Hp×Int}{e:Ending}(p:FwdPost w r e W):FwdPost w r e W.drew:=by
 obtain⟨x,d,f,a⟩:=p;exact⟨x,d,f.drew,⟨λj g=>Yx (a.own j g) λc h=>rfl,a.apart⟩⟩
def BR{w W:World}{rb B:Nat}{L:U8}(k:Kp w W L)(f:xz (xj w)<=rb)(p:rb<B){h:Hp}{x:Nat->Value}(o:HOwn B W h x){r:Int×Hp×Int}(c:Int)(e:r=(c,h,0)):
  FwdPost w r (.returned<|.tuple #[.int .u64 c,Zx h x,.int .i64 0]) (Sj W rb h x):=by
 subst e;refine⟨x,rfl,XJ k.az f,λj l=> ?_,o.apart⟩;have a:=o.own j l;exact S6 (Yx a λc g=>XK (by have:=(a.lt c g).1;omega)) λc n d=>⟨Z0,d⟩
def Ap(w:World)(G:Nat->Prop)(n:∀b,G b->b<xz (xj w))(h:Hp)(p:h.ok)(d:Nat->Value)(t:∀j,j<5->Rd w G (.sl<|(Zu h j).map vu) (d j)):
  Calls Tryz.prog 18 #[Zx h d] w λe g=>∃a q,e=.returned (Zx h<|X8 h a q)/\Below (xz<|xj w) w g/\HOwn (xz<|xj w) g h (X8 h a q):=
 (TH w G n h p d t).mono λe g ⟨x,k,o,r⟩=>by
  obtain⟨a,q,l,f⟩:=r.ip;exact⟨a,q,by rw[k,l],o,f⟩
def Mv{h:Hp}(P:h.ok){v:Int}(S:Zy v):
  (ZC (Zv h)=xw/\fwd h v=(0,Hp.zero,1))\/(ZC (Zv h)=xk/\¬v=0/\¬(adr v).2=0/\fwd h v=(0,Hp.zero,3))\/(ZC (Zv h)=xk/\¬v=0/\(adr v).2=0/\¬(Y3 (Zv h) (adr v).1).2.2=0/\fwd h v=(0,Hp.zero,6))\/
  (ZC (Zv h)=xk/\v=0/\fwd h v=(0,h,0))\/(∃(part:Int) (at_:Nat),ZC (Zv h)=xk/\¬v=0/\(adr v).2=0/\Y3 (Zv h) (adr v).1=(part,(at_:Int),0)/\(part=1\/part=2)/\fwd h v=(v,h,0))\/
  ∃(j at_:Nat) (f:Int),ZC (Zv h)=xk/\¬v=0/\(adr v).2=0/\Y3 (Zv h) (adr v).1=((j:Int)+1,(at_:Int),0)/\(j=2\/j=3)/\(Zu h j)[at_]?=J f/\Zy f/\
   (((adr f).2=0/\fwd h v=(f,h,0))\/(¬(adr f).2=0/\∃(sz:Nat) (pt x:Int),ZW f=((sz:Int),pt,x)/\sz<=255/\
     ((¬x=0/\fwd h v=(0,Hp.zero,3))\/(x=0/\I (Zu h j)<at_+(sz+1)/\fwd h v=(0,Hp.zero,2))\/
       (x=0/\at_+(sz+1)<=I (Zu h j)/\Xh (Zv h)< ((sz+1:Nat):Int)/\fwd h v=(0,Hp.zero,7))\/
       (x=0/\at_+(sz+1)<=I (Zu h j)/\¬Xh (Zv h)< ((sz+1:Nat):Int)/\
        fwd h v=(Tw h ((j:Int)+1) at_<|sz+1,Yr (Xl h ((j:Int)+1) at_<|sz+1) ((j:Int)+1)<|(zr (Zu h j) at_<|sz+1).set at_<|Tw h ((j:Int)+1) at_<|sz+1,0))))):=by
 cases p:ZC<|Zv h;exact .inl ⟨rfl,by simp[fwd,p]⟩;by_cases a:v=0;exact .inr<|.inr<|.inr<|.inl ⟨rfl,a,by simp[fwd,p,a]⟩;by_cases o:(adr v).2=0;case neg=>exact .inr<|.inl ⟨rfl,a,o,by simp[fwd,p,a,o]⟩
 by_cases D:(Y3 (Zv h) (adr v).1).2.2=0;case neg=>exact .inr<|.inr<|.inl ⟨rfl,a,o,D,by simp[fwd,p,a,o,D]⟩
 obtain⟨_,L,M,N,G,_⟩:=Mc D;rw[Uy ⟨L,M⟩]at G;obtain⟨k,K⟩:=Z6q N;have t:Y3 (Zv h) (adr v).1=((Y3 (Zv h) (adr v).1).1,(k:Int),0):=by rw[<-K,<-D]
 rw[K]at G;generalize (Y3 (Zv h) (adr v).1).1=part at*;by_cases u:part<3;exact .inr<|.inr<|.inr<|.inr<|.inl ⟨part,k,rfl,a,o,t,Z0,by simp[fwd,p,a,o,t,u]⟩;obtain⟨j,Q,rfl,l⟩:∃j:Nat,(j=2\/j=3)/\(j:Int)+1=part/\Zw h part=Zu h j:=by
  have:part=3\/part=4:=Z0;obtain rfl|rfl:=this;exact⟨2,.inl rfl,rfl,rfl⟩;exact⟨3,.inr rfl,rfl,rfl⟩
 have r:=(X0 P<|(j:Int)+1).1;rw[l]at G r;have y:k< I (Zu h j):=Z0;have C:(Zu h j)[k]?=J (Zu h j)[k]:=Z6b y;replace r:=r _<|Z6E y;generalize (Zu h j)[k]=f at*;have z:(Zu h j).getD k 0=f:=by simp[List.getD,C]
 refine .inr<|.inr<|.inr<|.inr<|.inr ⟨j,k,f,rfl,a,o,t,Q,C,r,?_⟩;by_cases g:(adr f).2=0;exact .inl ⟨g,by simp[fwd,p,a,o,t,u,l,-List.getD_eq_getElem?_getD,z,g]⟩;refine .inr ⟨g,?_⟩;by_cases d:(ZW f).2.2=0;have R:=Yq.1<|A9 (w:=f) d;obtain⟨n,F⟩:=Z6q R.1;have H:ZW f=((n:Int),(ZW f).2.1,(ZW f).2.2):=by rw[<-F]
 refine⟨n,_,_,H,Z0,.inr ?_⟩;by_cases q:I (Zu h j)<k+(n+1);exact .inl ⟨d,q,by simp[fwd,TW,p,a,o,t,u,l,-List.getD_eq_getElem?_getD,z,g,d,F,q]⟩;by_cases A:Xh (Zv h)< ((n+1:Nat):Int);exact .inr<|.inl ⟨d,Z0,A,by simp[fwd,TW,p,a,o,t,u,l,-List.getD_eq_getElem?_getD,z,g,d,F,q];omega⟩;refine .inr<|.inr ⟨d,Z0,A,?_⟩;have B:¬Xh (Zv h)< (n:Int)+1:=Z0;simp only[fwd,p,a,o,t,Z7K,Z7m,Z96,Z9L,Z9l];simp[-List.getD_eq_getElem?_getD,u,l,z,g,F,d,TW,q,B];exact⟨rfl,rfl⟩;have O:ZW f=(((0:Nat):Int),(ZW f).2.1,(ZW f).2.2):=by
  unfold ZW at d⊢;split;rename_i c;rw[Z6k c]at d;exact absurd rfl d;rfl
 exact⟨0,_,_,O,Z0,.inl ⟨d,by simp[fwd,p,a,o,t,u,l,-List.getD_eq_getElem?_getD,z,g,d]⟩⟩
abbrev FwQ{w W:World}{L:U8}{B b c d:Nat}{h:Hp}{x:Nat->Value}{r s:Array Value}{T S:TypeId}(_:Hid<|Kp w W L)(_:Hid<|Now B W b h x)(_:(c,r,T)∈L)(_:(d,s,S)∈L)(W:World):Prop:=
 (∀j,W.cell? ⟨c,j,U⟩=r[j]?)/\(∀j,W.cell? ⟨d,j,U⟩=s[j]?)/\Kp w W L/\Now B W b h x
theorem FwQ.of{w W V:World}{L:U8}{B b c d:Nat}{h:Hp}{x:Nat->Value}{r s:Array Value}{T S:TypeId}{k:Hid (Kp w W L)}{n:Hid (Now B W b h x)}{m:(c,r,T)∈L}{m':(d,s,S)∈L}(e:Kp w V L)(o:Now B V b h x):FwQ k n m m' V:=
 ⟨λj=>Z6j _ _ _ _ _ _<|e.row _ m,λj=>Z6j _ _ _ _ _ _<|e.row _ m',e,o⟩
def Kp.drew{w W:World}{L:U8}(k:Kp w W L):Kp w W.drew L:=⟨k.az.drew,k.row⟩
def Now.drew{B b:Nat}{W:World}{h:Hp}{x:Nat->Value}(s:Now B W b h x):Now B W.drew b h x:=⟨s.fp,⟨λj a=>Yx (s.own.own j a) λc d=>rfl,s.own.apart⟩,s.ae,s.new⟩
def Kp.sub{w W W':World}{L:U8}(k:Kp w W L){B c:Nat}{r:Array Value}{T:TypeId}(a:Below B W W')(d:xz (xj w)<=B)(m:(c,r,T)∈L)(f:c<B):Kp w W' [(c,r,T)]:=
 ⟨k.az.trans<|a.mono d,λx g=>by
  cases Z86.1 g;exact(a.block _ f).trans (k.row _ m)⟩
def Now.ip{B b:Nat}{W:World}{h:Hp}{x:Nat->Value}(s:Now B W b h x):∃a q,Now B W b h<|X8 h a q:=by
 obtain⟨a,q,e,o⟩:=s.own.ip;simp only[Zx,Value.agg.injEq]at e;have d:=s.fp;rw[e]at d;refine⟨a,q,d,o,λj f c g=> ?_,s.new⟩;simp at e;have:=s.ae j f c
 match j,f with
 |0,_|1,_|2,_|3,_|4,_=>simp_all
def Lm{w:World}{B g cap:Nat}{l:List Int}{a:Option Addr}(h:w.ownsRow B 24 1 (.slice a (I l) cap) (I l)<|Y6 .u64 l)(d:a=J ⟨g,0,U⟩){i:Nat}{v:Int}(f:l[i]?=J v):w.cell? ⟨g,i,U⟩=J (.int .u64 v):=by
 subst d;exact Vn h f
def zm(w:World)(G:Nat->Prop)(hG:∀b,G b->b<xz (xj w))(h:Hp)(hh:h.ok)(f:Nat->Value)(hs:∀j,j<5->Rd w G (.sl<|(Zu h j).map vu) (f j))(v:Int)(hv:Zy v):
  Calls Tryz.prog 43 #[Zx h f,.int .u64 v] w (FwdPost w<|fwd h v):=by
 have HS:=Z6e hs;have K:=Z6e hh;have HW:=Mv hh hv;clear hs hh;have KZ:=Z6e<|((Kp.mk (Z6r (xz<|xj w) w) (L:=[]) nofun).alloc #[.int .u64 h.V,.int .i64 h.cap,.int .i64 h.to,.bool h.M,.int .i64 h.O,f 0,f 1,f 2,f 3,f 4] 31).alloc ZE 31 (n:=xz (xj w)+1) Z1;unfold Zx;go_enter Tryz.func43,Tryz.ntmps43;obtain⟨hr,d⟩|⟨hr,a1,h1,d⟩|⟨hr,a1,h1,h2,d⟩|⟨hr,rfl,d⟩|⟨part,at_,hr,a1,h1,hf,rfl|rfl,d⟩|⟨j,at_,wd,hr,a1,h1,hf,O,u,b0,H⟩:=HW
 rotate_right
 have h5:j<5:=Z0;have hp:(j:Int)+1=3\/(j:Int)+1=4:=by clear H;omega
 have b4:=(Z6d.1 u).1;have e1:=VY K.out j;obtain⟨m,hm⟩:∃m,I (Zu h j)-at_=m:=⟨_,rfl⟩;have d6:0<m:=Z0;have e0:(0:Int)< (m:Int):=Z0;have hz:at_+0=at_:=rfl;have e2:m<=1000000:=Z0;have d5:at_+m=I (Zu h j):=Z0;generalize b5:(j:Int)+1=part at hp hf;obtain⟨H,d⟩|⟨H,sz,pt,er,c0,e9,⟨Z,d⟩|⟨Z,t,d⟩|⟨Z,t,a8,d⟩|⟨Z,t,a8,d⟩⟩:=H;iterate 5 (obtain rfl|rfl:=hp;rotate_left 2)
 all_goals
  go_wp2_with (first
   |(go_at_call 54;obtain⟨g,hg⟩:=T5 (N6.out.own.own j h5) rfl (by omega);have a0:=Ms _ _ _ h _ N6.out K.out j at_ O g (q j) (by simp[X8,hg]) b4;rw[b5,hm]at a0;refine a0.mono ?_;clear a0;rintro e w7 ⟨rfl,B⟩;have d4:=Dg (N6.out.own.own j h5) (by omega);obtain⟨qm,b6⟩:∃qm,q j-at_=qm:=⟨_,rfl⟩;rw[b6];have k7:=K6.out.below B;have n:=N6.out.below B;have b9:=B.size;simp at b9;have k:=k7.F;simp only[Kf,ZE]at k;obtain⟨⟨n7,m7⟩,⟨p7,_⟩,⟨c7,f7⟩,⟨y7,z7⟩,_⟩:=k;have d7:=Lm (n.own.own j h5) hg u;have Q:=Z6e n.own;have N7:=Z6e n;have K7:=Z6e k7;have l:=K7;clear k7 B n n6 m6 p6 c6 f6 y6 z6)
   |(go_at_call 29;have k7:=K7.out;refine(UI b0 _).mono ?_;rintro e w8 ⟨rfl,C⟩;have k8:=k7.below C;have n:=N7.out.below C;have e6:=C.size;have k:=k8.F;simp only[Kf,ZE]at k;obtain⟨⟨n8,m8⟩,⟨p8,_⟩,⟨c8,f8⟩,⟨y8,z8⟩,_⟩:=k;have d8:=Lm (n.own.own j h5) hg u;have Q:=Z6e n.own;have N8:=Z6e n;have K8:=Z6e k8;have l:=K8;clear k7 k8 C n n7 m7 p7 c7 f7 y7 z7 d7)
   |(go_at_call 55;refine(Rk b0 _).mono ?_;rintro e w9 ⟨rfl,D⟩;rw[c0];dsimp only;have e7:=D.size;have k9:=(K8.out.below D).alloc #[.int .i64 (sz:Nat),.int .i64 pt] 42;have n:=(N8.out.below D).below<|(Z6r _ _).alloc (Z6i _)<|.cells #[.int .i64 (sz:Nat),.int .i64 pt] 42;have k:=k9.F;simp only[Kf,ZE]at k;obtain⟨⟨s9,_⟩,⟨n9,m9⟩,⟨p9,_⟩,⟨c9,f9⟩,⟨y9,z9⟩,_⟩:=k;have d9:=Lm (n.own.own j h5) hg u;have Q:=Z6e n.own;have N9:=Z6e n;have K9:=Z6e k9;have l:=K9;clear k9 D n n8 m8 p8 c8 f8 y8 z8 d8)
   |(go_at_call 19;refine(Rq (h:=h) (x:=f) (G:=G) (λc hc=>by have:=hG c hc;simp;omega) (λj O=>(HS.out j O).keep (λb z=>by have:=hG b z;rw[Z6m _ _ _ (by simp;omega),Z6m _ _ _ (by omega)])<|λ_ h=>h)).mono ?_;rintro e w1 ⟨rfl,W⟩;unfold Wb;have K1:=Z6e<|KZ.out.below W;have a9:=W.size;simp at a9;clear W)
   |(go_at_call 28;refine(u5 K.out.al _).mono ?_;rintro e w2 ⟨rfl,X⟩;rw[hr];have k2:=(K1.out.alloc _ _).below X;have b7:=X.size;simp at b7;have k:=k2.F;simp only[Kf,ZE]at k;obtain⟨⟨c2,f2⟩,⟨y2,z2⟩,⟨x2,_⟩,_⟩:=k;have K2:=Z6e k2;have l:=K2;clear k2 X)
   |(go_at_call 29;refine(UI hv _).mono ?_;rintro e w3 ⟨rfl,o⟩;have k3:=K2.out.below o;have e4:=o.size;have k:=k3.F;simp only[Kf,ZE]at k;obtain⟨⟨c3,f3⟩,⟨y3,z3⟩,⟨x3,_⟩,_⟩:=k;have K3:=Z6e k3;have l:=K3;clear k3 o c2 f2 y2 z2 x2)
   |(go_at_call 30;refine(Br K.out.al (Kk hv) _).mono ?_;rintro e w4 ⟨rfl,Y⟩;(try (rw[hf];dsimp only));have e5:=Y.size;have k4:=K3.out.below Y;have k:=λcs T=>(k4.alloc cs T).F;simp only[Kf,ZE,forall_and]at k;obtain⟨_,⟨c4,f4⟩,⟨y4,z4⟩,⟨x4,_⟩,_⟩:=k;have K4:=Z6e k4;have l:=Z6e<|k4.alloc #[.int .i64 (Y3 (Zv h) (adr v).1).1,.int .i64 (Y3 (Zv h) (adr v).1).2.1] 86;clear k4 Y c3 f3 y3 z3 x3)
   |(go_at_call 18;have kg:=K4;refine(Ap _ G (λb z=>by have:=hG b z;simp;omega) h K.out f (λj O=>(HS.out j O).keep (λb z=>(K4.out.az.alloc (by have:=K4.out.az.size;omega) _).block b<|hG b z)<|λ_ h=>h)).mono ?_;rintro e w5 ⟨a,q,rfl,A,a7⟩;have k5:=(K4.out.alloc _ _).below A;have b8:=A.size;simp at b8;have hN:=On a7 A.size;have k6:Kp w (w5.alloc<|Ae h<|X8 h a q) _:=k5.alloc _ _;unfold Zx;unfold Ae at k6 hN;dsimp only[X8]at k6 hN⊢;have k:=k6.F;simp only[Kf,ZE]at k;obtain⟨⟨n6,m6⟩,⟨p6,_⟩,⟨c6,f6⟩,⟨y6,z6⟩,_⟩:=k;have Q:=Z6e hN.own;have N6:=Z6e hN;have K6:=Z6e k6;have l:=K6;clear kg k5 k6 hN A a7 c4 f4 y4 z4 x4)
   |(go_at_call 18;refine(Ap _ G (λb z=>by have:=hG b z;omega) h K.out f<|λj O=>(HS.out j O).keep (λb z=>K2.out.az.block b<|hG b z) (λ_ h=>h)).mono ?_;rintro e w3 ⟨a,q,rfl,o,a6⟩;unfold Zx;dsimp only[X8];have k3:=K2.out.below o;have k:=k3.F;simp only[Kf,ZE]at k;obtain⟨⟨c3,f3⟩,⟨y3,z3⟩,⟨x3,_⟩,_⟩:=k;have l:=Z6e k3;have Q:=Z6e a6;clear k3 o a6))
  try
   generalize e8:sz+1=sm at a8 t d;have f0:IntKind.i64.wrap ((sz:Int)+1)=(sm:Int):=by rw[ZA ((sz:Int)+1) Z0 Z0];omega
   have a9:(sm:Int)<=(qm:Int):=Z0;have e3:(0:Int)<=(sm:Int):=Z0;have HL:=Z6e t;have S:=FwQ.of (k:=K9) (n:=N9) (m:=.tail _<|.tail _<|.tail _<|.head _) (m':=.head _) K9.out.drew N9.out.drew;clear s9 n9 m9 p9 c9 f9 y9 z9 d9 t
   go_region_held3 (FwQ K9 N9 (.tail _<|.tail _<|.tail _<|.head _)<|.head _) (first|exact S|assumption)
    (first|(go_at_call 56;refine(u7 K.out.al _).mono ?_;rintro e d1 ⟨rfl,M⟩;have S:=FwQ.of (k:=K9) (n:=N9) (m:=.tail _<|.tail _<|.tail _<|.head _) (m':=.head _) (S.2.2.1.below M)<|S.2.2.2.below M))
   obtain⟨-,-,a2,a4⟩:=S;rename_i R;clear R;have k:=a2.F;simp only[Kf,ZE]at k;obtain⟨⟨d0,_⟩,⟨b1,c1⟩,⟨Ln,_⟩,⟨zL,b3⟩,⟨d2,d3⟩,_⟩:=k;have b2:=Lm (a4.own.own j h5) hg u;have a5:=Z6e a2;have l:=a5;have P:=Z6e a4;clear a2 a4;go_wp2_with (first|(go_at_call 57;refine(IL d1 _ _ h _ P.out (by have:=ZL P.out.fp;have:=P.out.new;omega) K.out j at_ sm O Z0 Z0 Z0 g (q j) (by simp[X8,hg]) (by have:=HL.out;omega) qm).mono ?_;rintro e f1 ⟨x',rfl,N,y⟩;obtain⟨a',q',y⟩:=y.ip;generalize Tw h ((j:Int)+1) at_ sm=to at*;generalize Yr (Xl h ((j:Int)+1) at_ sm) ((j:Int)+1) ((zr (Zu h j) at_ sm).set at_ to)=h' at*;have a3:=a5.out.sub N (by have:=K1.out.az.size;simp;omega) (c:=xz (xj w)+1) (r:=ZE) (T:=31) Z1 Z5j;have k:=a3.F;have n:=λj=>Z6j _ _ j _ _ _ y.fp;simp only[Kf,ZE]at k;dsimp only[X8]at n;have Q:=Z6e y.own;have l:=Z6e a3;clear a3 N y d0 b1 c1 Ln zL b3 d2 d3 b2))
  have r:=Xo<|l.out.row (xz (xj w)+1,ZE,31) Z1;dsimp only at r;first
  |go_region
   all_goals
    go_wp2;try simp only[Exit.inBlock,Exit.then]
    refine Z6x ?_ rfl (BR l.out Z0 Z5j Q.out _ d).drew
  |have p:=Z1K l.out (rb:=xz (xj w)+1) (by omega) d
   refine Z6x ?_ rfl p
  |have p:=BR l.out (rb:=xz (xj w)+1) (by omega) (by omega) Q.out _ d
   refine Z6x ?_ rfl p
  all_goals simp[results,Tryz.results43,go_sem,r,Zx,X8,ZE,d]
end Vm
namespace Vm
open Go Go.Proofs Go.RowKit
def V9{w G k n v}(r:Rd w G (.int k n) v):v=.int k n:=by cases r;rfl
def JH{w G b v}(r:Rd w G (.bool b) v):v=.bool b:=by cases r;rfl
def J1{w G h v}(r:Rd w G (ZF h) v):∃f,v=Zx h f/\∀j,j<5->Rd w G (.sl<|(Zu h j).map vu) (f j):=by
 cases r with
 |agg _ u t _ a=>
  refine⟨λj=>u.getD (5+j) xy,?_,?_⟩;have g:=V9<|a 0 _ rfl;have k:=V9<|a 1 _ rfl;have l:=V9<|a 2 _ rfl;have n:=JH<|a 3 _ rfl;have o:=V9<|a 4 _ rfl;have d:=t;unfold Zx;rw[<-g,<-k,<-l,<-n,<-o];congr 1;apply Z8F;simp[d];intro i x y;have p:i<10:=Z0
  match i,p with
  |0,_|1,_|2,_|3,_|4,_|5,_|6,_|7,_|8,_|9,_=>simp[Array.getD,d]
  intro j q
  match j,q with
  |0,_=>exact a 5 _ rfl
  |1,_=>exact a 6 _ rfl
  |2,_=>exact a 7 _ rfl
  |3,_=>exact a 8 _ rfl
  |4,_=>exact a 9 _ rfl
def UR{w G h x}(d:∀j,j<5->Rd w G (.sl<|(Zu h j).map vu) (x j)):Rd w G (ZF h)<|Zx h x:=by
 refine .agg _ _ rfl Z1 ?_;intro i y a
 match i,a with
 |0,a=>cases a;exact .int _ _
 |1,a=>cases a;exact .int _ _
 |2,a=>cases a;exact .int _ _
 |3,a=>cases a;exact .bool _
 |4,a=>cases a;exact .int _ _
 |5,a=>cases a;exact d 0 Z0
 |6,a=>cases a;exact d 1 Z0
 |7,a=>cases a;exact d 2 Z0
 |8,a=>cases a;exact d 3 Z0
 |9,a=>cases a;exact d 4 Z0
end Vm
end
section
namespace Vm
open Go Go.Proofs Go.RowKit
def Rd.cp{w:Z4}{G:Z6}{l:List V}{v:Za}(h:Rd w G (.sl l) v):∃a c,v=.slice a (I l) c:=by
 cases h with
 |nil a cap _=>exact⟨a,cap,rfl⟩
 |sl l b o cap k d=>exact⟨_,cap,rfl⟩
def append_empty{P:Ze}{w:Z4}{t ty e:Zd}(u:P.underlying t=J (.slice e))(o:VN P e=xk)(p a:Addr)(n c:Nat)(d:List Value)(r:I d=n*P.cellsOf e)(f:∀j v,d[j]?=J v->w.cell? (a.add j)=J v)(y:0<n)(h:n<=Ye):
  (Builtin.append_ #[t,t] ty #[.slice (J p) 0 0,.slice (J a) n c]).run P w=(Builtin.append_ #[t,t] ty #[.slice U 0 0,.slice (J a) n c]).run P w:=by
 obtain⟨i,z,q,x,C,D,l,k⟩:=Su o;simp only[Ye]at h;have g:n*i.bytes<=140737488355328:=by
  have:n*i.bytes<=4294967296*32768:=Z9g h l;omega
 rw[run_append_nil (P:=P) w t ty e i z u q x a n c d (by rw[r,k]) f y Z0 Z0];have A:=run_append_grow (P:=P) w t ty e i z u q x p 0 0 [] Z1 (λj v B=>by simp at B) a n c d (by rw[r,k]) f Z0 Z0<|Z9G Z0 Z5Y;simpa using A
def GY{w:Z4}(f:Option Addr){ty:Zd}{G:Z6}{l:Z5}{y:Za}(hl:I l<=1000000)(Q:Rd w G (.sl<|l.map vu) y):
  ∃C h,(Builtin.append_ #[29,29] ty #[.slice f 0 0,y]).run Tryz.prog w=.ok C h/\Below (xz<|xj w) w h/\Rd h (λc=>xz (xj w)<=c/\c<xz (xj h)) (.sl<|l.map vu) C:=by
 have F:=Tryz.underlying29;have g:∀(w:Z4),Rd w (λc=>xz (xj w)<=c/\c<xz (xj w)) (.sl ([]:List V))<|.slice f 0 0:=λw=>.nil _ _ Z5G;by_cases t:l=[];subst t;obtain⟨i,z,hi,hz,a2,d,a0,a1⟩:=Su (P:=Tryz.prog) Sv;have hv:∃a c,y=.slice a 0 c:=by
  obtain⟨a,c,e⟩:=Rd.cp Q;exact⟨a,c,by simpa using e⟩
 obtain⟨a,c,rfl⟩:=hv;refine⟨.slice f 0 0,w,?_,Z6r _ _,g w⟩;cases a<;>cases f<;>simp[Builtin.append_,Z6M F,Go.sizeOf,typeInfo,hi,Builtin.lenOf,Builtin.firstCells,loadCells,loadCellsFrom,storeCells]
 have W:0<I l:=List.length_pos_iff.2 t;have key:(Builtin.append_ #[29,29] ty #[.slice f 0 0,y]).run Tryz.prog w=(Builtin.append_ #[29,29] ty #[.slice U 0 0,y]).run Tryz.prog w:=by
  obtain _|f:=f;rfl;have p:=Q;generalize A:l.map vu=L at p;cases p with
  |nil=>simp at A;exact absurd A t
  |sl _ b o cap kk X d k Y Z D R=>
   have T:I L=I l:=by rw[<-A,Z6D]
   have H:kk=1:=by
    obtain⟨x,hx⟩:=Z9d l t;have:=(Z (vu x) (by rw[<-A];exact Z74 hx)).1;simpa using this.symm
   subst H;refine append_empty (P:=Tryz.prog) F Sv f ⟨b,o,U⟩ _ cap ((List.range<|I L).map X) (by rw[Vf];simp) (λj u S=> ?_) Z0 (by simp only[Ye];omega);have M:j<I L:=by simpa using(Z6d.1 S).1
   have O:X j=u:=by simpa[M]using S
   rw[Z7L,<-O];exact D j Z0
 obtain⟨C,h,q,N,d,k,Y,_,D⟩:=JL (P:=Tryz.prog) (ty:=ty) (B:=xz<|xj w) (n:=0) (xs:=[]) F Sv (Z7e w _ _ _) (Z6i _) Q (by rw[Vf];exact Qi _) (by simp only[Ye,Z6D];omega);rw[Vf]at d;have K:I q=I l:=by have:=d.1;simpa using this
 have R:=Jh D K;rw[R]at d;simp only[Z6D,Z6V,Z70]at d;refine⟨C,h,key.trans N,?_,U1 d λc d k=>⟨d,k⟩⟩;have hn:(Value.slice U 0 0).ownBlock=U:=rfl;rw[hn]at k;exact Below.grown (Z6r _ _) k (Z6i _) (λr N=>by cases N)
def Z1C{w:Z4}{o:Oper}{a:Act}{K:Act->World->Prop}{Q:Zb}(s x:Operand)
  (p:o.op=.call {callee:=.builtin .append,args:=#[s,x],argTypes:=#[29,29]}) {g:Option Addr} {y:Za} (r:a.eval s=.slice g 0 0) (hx:a.eval x=y)
  {G:Z6} {l:Z5} (n:I l<=1000000) (t:Rd w G (.sl<|l.map vu) y)
  (h:∀f d,Below (xz<|xj w) w d->Rd d (λc=>xz (xj w)<=c/\c<xz (xj d)) (.sl<|l.map vu) f->K (a.put o.dst f) d):o.wp Tryz.prog a w K Q:=by
 obtain⟨f,d,q,j,k⟩:=GY g (ty:=o.type) n t;unfold Oper.wp execOp;simp only[p,resolve,invoke,builtin,Z8Q,Sem.run_pure,Z8v,List.map_toArray,Z6R,Z7B,r,hx,q];exact h f d j k
def Z1y{w:Z4}{ops:Array Oper}{d:List Oper}{o:Oper}{a:Act}{Q:Zb}(j:o.guard=U)(s x:Operand)
  (t:o.op=.call {callee:=.builtin .append,args:=#[s,x],argTypes:=#[29,29]}) {k:Option Addr} {y:Za} (u:a.eval s=.slice k 0 0) (hx:a.eval x=y)
  {G:Z6} {l:Z5} (r:I l<=1000000) (z:Rd w G (.sl<|l.map vu) y)
  (h:∀g f,Below (xz<|xj w) w f->Rd f (λc=>xz (xj w)<=c/\c<xz (xj f)) (.sl<|l.map vu) g->wpList Tryz.prog ops Q d (a.put o.dst g) f):wpList Tryz.prog ops Q (o::d) a w:=
 wpList_plain j λ_ q=>Z1C s x t u hx r z λg f n p=>q _ _<|h g f n p
def yp(w:Z4){G:Z6}{l:Z5}{y:Za}(j:I l<=1000000)(f:Rd w G (.sl<|l.map vu) y):
  Calls Tryz.prog 113 #[y] w λe d=>∃v,e=.returned v/\Below (xz<|xj w) w d/\Rd d (λc=>xz (xj w)<=c/\c<xz (xj d)) (.sl<|l.map vu) v:=by
 obtain⟨a,c,rfl⟩:=Rd.cp f;go_enter Tryz.func113,Tryz.ntmps113;go_wp2_with (at_builtin;refine Z1y rfl _ _ rfl rfl rfl j f ?_;intro g d h k)
 exact Z6x (v:=g) (by simp[results,Tryz.results113,go_sem]) rfl ⟨g,rfl,h,k⟩
section
def QN(K:Act->World->Prop)(Q:Zb):Exit->Act->World->Prop
 |.normal,a,w=>K a w
 |.ret,a,w=>Q .ret a w
 |.outgrown,a,w=>Q .outgrown a w
 |e,a,w=>Q e a w
section
variable {P:Ze}{ops:Array Oper}{Q:Zb}
def Z1z{i:Nat}{o:Oper}{K:Act->World->Prop}{a:Act}{w:Z4}(k:ops[i]?=J o)(h:wpList P ops (QN K Q) [o] a w):wpOp P ops Q i K a w:=by
 unfold wpOp;rw[k];simp only;unfold wpList at h;split at h;rename_i f;rw[Z6k f];obtain h|⟨g,j⟩:=h;left;unfold Oper.wp at*;generalize (execOp a.eval o).run P w=r at*;cases r with
 |ok n l=>
  cases n<;>simp only[Oper.upon]at h⊢ <;>
   first
    |exact h
    |exact Z84 h (λe p d=>by cases e<;>exact d)
    |exact Rows.mono h (λ_ _ d=>d)
 |halt x l=>cases x<;>simp only[Oper.upon]at h⊢ <;>exact h
 exact .inr ⟨g,j⟩;rename_i f;rw[Z6h f];exact h
def EL{id:Nat}{D:Act}{w0:Z4}(hm:P.follows .mixedOrders=xk)(z:∀(i:Nat) (o:Oper),ops[i]?=J o->∀e∈Vg o,e<i)(I:(Nat->Bool)->Act->World->Prop)
  (T:I (λ_=>xw) D {w0 with drawn:=w0.drawn+1})
  (K:∀(L:Zc) (i:Nat) (o:Oper) (a:Act) (w:Z4),ops[i]?=J o->L i=xw->(∀j∈Vg o,L j=xk)->I L a w->wpList P ops (QN (I<|add L i) Q) [o] a w)
  (N:∀(L:Zc) (a:Act) (w:Z4),(∀i,i<ops.size->L i=xk)->I L a w->Q .normal a w):(Code.region id ops xk).wp P Q D w0:=by
 have u:∀(d:Array Bool) (i:Nat),d.size=ops.size->i<ops.size->d.getD i xk=d.getD i xw:=by
  intro d i p F;simp[Z6g,p,F]
 have k:∀(d:Array Bool),d.size=ops.size->Region.ready .any ops d=[]->∀i,i<ops.size->d.getD i xw=xk:=by
  intro d g A i;induction i using Nat.strongRecOn with
  |_ i M=>
   intro t;cases hl:d.getD i xw with
   |true=>rfl
   |false=>
    have:i∈Region.ready .any ops d:=Z9w.2 ⟨by rw[u d i g t];exact hl,ops[i],Z8a t,λe Y X=>by
     have l:=z i ops[i] (Z8a t) e.on<|Cs Y X;exact M e.on l Z0⟩
    rw[A]at this;simp at this
 refine wp_region_any hm ?_;have B:∀(f:Nat) (d:Array Bool) (a:Act) (w:Z4),d.size=ops.size->K0 ops.size (λi=>d.getD i xw)<=f->I (λi=>d.getD i xw) a w->wpAny P .any ops Q f d a w:=by
  intro f;induction f with
  |zero=>
   intro d a w g O C;have h:=FI<|Nat.le_zero.1 O;refine⟨?_,N _ a w h C⟩;cases A:Region.ready .any ops d with
   |nil=>rfl
   |cons i r=>
    have:i∈Region.ready .any ops d:=by rw[A];simp
    obtain⟨p,o,y,_⟩:=Z9w.1 this;have t:i<ops.size:=(Z6N.1 y).1;rw[u d i g t,h i t]at p;cases p
  |succ f M=>
   intro d a w g O C;refine⟨λA=>N _ a w (k d g A) C,λi t=> ?_⟩;obtain⟨p,o,y,h⟩:=Z9w.1 t;have l:i<ops.size:=(Z6N.1 y).1;rw[u d i g l]at p;have q:(λj=>(d.setIfInBounds i xk).getD j xw)=add (λi=>d.getD i xw) i:=by
    funext j;simp only[add];by_cases x:j=i;subst x;have:j<d.size:=Z0;simp[Z6g,this];have:(d.setIfInBounds i xk).getD j xw=d.getD j xw:=getD_set_ne xw<|Z8d x;rw[this];simp[x]
   have hs:=Z1z y (K _ i o a w y p (λj Z=>by
    obtain⟨S,F,W,rfl⟩:=Be Z;exact h S F W) C)
   refine wpOp_mono (λR w' G=>M _ R w' Z5Y ?_ (by rw[q];exact G)) hs;rw[q];have:=FH (n:=ops.size) (L:=λi=>d.getD i xw) l p;omega
 have H:(λi=>(Array.replicate ops.size xw).getD i xw)=λ_=>xw:=by
  funext i;simp only[Z6g,Array.getElem?_replicate];split<;>rfl
 refine B _ _ D _ Z1 ?_ (by rw[H];exact T);exact Z6H (Z9y _ _) Z1
end
def T6(a:Act)(l:List<|Nat×Value):Act:= {a with tmps:=l.foldl (λt p=>t.setIfInBounds p.1 p.2) a.tmps}
def Le(ops:Array Oper):Bool:=(List.range ops.size).all λi=>match ops[i]? with|some o=>(Vg o).all λe=>decide (e<i)|none=>xk
def Da{ops:Array Oper}(h:Le ops=xk):∀(i:Nat) (o:Oper),ops[i]?=J o->∀e∈Vg o,e<i:=by
 intro i o a e d;unfold Le at h;rw[Z6y]at h;have:=h i (by simpa using(Z6N.1 a).1);rw[a]at this;simp only[Z6y,Z6J]at this;exact this e d
def Uu(a:Act)(d:List Nat)(v:Z3):Act:=T6 a (d.map λs=>(s,v s))
def X7(v:Z3)(s:Nat)(x:Za):Nat->Value:=λt=>if t=s then x else v t
def Sc(v:Z3)(s:Nat)(x:Za):X7 v s x s=x:=Z6k rfl
def T8(v:Z3){s t:Nat}(x:Za)(h:t≠s):X7 v s x t=v t:=Z6h h
def EM{P:Ze}{ops:Array Oper}{Q:Zb}{id:Nat}{d:Act}{w0:Z4}(g:List Nat)(C:(Nat->Bool)->(Nat->Value)->World->Prop)
  (t:P.follows .mixedOrders=xk) (f:Le ops=xk) (l:∃v,d=Uu d g v/\C (λ_=>xw) v {w0 with drawn:=w0.drawn+1})
  (k:∀(L:Zc) (i:Nat) (o:Oper) (v:Z3) (w:Z4),ops[i]?=J o->L i=xw->(∀j∈Vg o,L j=xk)->C L v w->
   wpList P ops (QN (λa w=>∃v,a=Uu d g v/\C (add L i) v w) Q) [o] (Uu d g v) w)
  (p:∀(L:Zc) (v:Z3) (w:Z4),(∀i,i<ops.size->L i=xk)->C L v w->Q .normal (Uu d g v) w):(Code.region id ops xk).wp P Q d w0:=by
 refine EL t (Da f) (λL a w=>∃v,a=Uu d g v/\C L v w) l ?_ ?_;rintro L i o _ w u q r ⟨v,rfl,h⟩;exact k L i o v w u q r h;rintro L _ w n ⟨v,rfl,h⟩;exact p L v w n h
def VL(L:Zc)(i:Nat):add L i i=xk:=by simp[add]
def ZR{L:Zc}{i j:Nat}(h:j≠i):add L i j=L j:=by simp[add,h]
end
section
def Qh{v:Z3}{s:Nat}{x:Za}(h:v s=x):X7 v s x=v:=by
 funext t;unfold X7;by_cases e:t=s;rw[Z6k e,e,h];rw[Z6h e]
def VS(h:Hp)(i:Nat):List Int:=if i=9 then h.H else if i=12 then h.aa else h.E
def VA(h:Hp)(y:Z3):Array Value:=#[.int .u64 h.V,.int .i64 h.cap,.int .i64<|1-h.to,.bool xw,.int .i64 0,.slice U 0 0,.slice U 0 0,y 9,y 12,y 15]
def Uf(bh:Nat)(h:Hp)(src:Z3):Nat->Value
 |0=>.pointer<|J ⟨bh,0,U⟩
 |1=>.int .u64 h.V
 |2=>.pointer<|J ⟨bh,1,U⟩
 |3=>.int .i64 h.cap
 |4=>.pointer<|J ⟨bh,2,U⟩
 |5=>.int .i64 h.to
 |6=>.int .i64<|1-h.to
 |7=>.pointer<|J ⟨bh,5,U⟩
 |8=>src 0
 |10=>.pointer<|J ⟨bh,6,U⟩
 |11=>src 1
 |13=>.pointer<|J ⟨bh,9,U⟩
 |14=>src 4
 |_=>xy
def XM(i:Nat):Prop:=i<15/\i≠9/\i≠12
def Xr(i:Nat):Prop:=i=9\/i=12\/i=15
def WE(W0 W:Z4)(L:Zc)(v:Z3)(b:Nat):Prop:=xz (xj W0)<=b/\b<xz (xj W)/\(L 17=xk->v 4≠.pointer (J ⟨b,0,U⟩))
structure FlC (W0:World) (bh:Nat) (h:Hp) (src:Nat->Value) (L:Nat->Bool) (v:Nat->Value) (W:World):Prop where
 b:Below (xz<|xj W0) W0 W
 eq:∀i,XM i->L i=xk->v (16+i)=Uf bh h src i
 rd:∀i,Xr i->L i=xk->Rd W (WE W0 W L v) (.sl<|(VS h i).map vu) (v<|16+i)
 agg:L 16=xk->∃y,v 32=.agg (VA h y)/\∀i,Xr i->Rd W (WE W0 W L v) (.sl<|(VS h i).map vu) (y i)
 new:L 17=xk->∃c,v 4=.pointer (J ⟨c,0,U⟩)/\xz (xj W0)<=c/\c<xz (xj W)/\(L 18=xw->W.heap[c]?=J (.cells ZE 31 (0,0)))
 put:L 18=xk->∃c y,v 4=.pointer (J ⟨c,0,U⟩)/\xz (xj W0)<=c/\W.heap[c]?=J (.cells (VA h y) 31 (0,0))/\∀i,Xr i->Rd W (WE W0 W L v) (.sl<|(VS h i).map vu) (y i)
 sp:L 18=xk->L 17=xk
section
variable {W0 W W':Z4}{bh:Nat}{h:Hp}{src:Z3}{L:Zc}{v:Z3}
def FlC.step(C:FlC W0 bh h src L v W){i s:Nat}(O:i<17)(M:s=16+i){x:Za}(q:Below (xz<|xj W) W W')(H:XM i->x=Uf bh h src i)
  (K:Xr i->Rd W' (λb=>xz (xj W)<=b/\b<xz (xj W')) (.sl<|(VS h i).map vu) x) (G:i=16->∃y,x=.agg (VA h y)/\∀j,Xr j->Rd W (WE W0 W L v) (.sl<|(VS h j).map vu) (y j)):FlC W0 bh h src (add L i) (X7 v s x) W':=by
 subst M;have o:add L i 18=L 18:=ZR Z0;have k:add L i 17=L 17:=ZR Z0;have v4:X7 v (16+i) x 4=v 4:=T8 v x Z0;have B:∀b,WE W0 W L v b->b<xz (xj W)/\WE W0 W' (add L i) (X7 v (16+i) x) b:=λb d=>by
  obtain⟨D,A,F⟩:=d;refine⟨A,D,Z6o A q.size,?_⟩;rw[k,v4];exact F
 have t:∀ {u:V} {z:Za},Rd W (WE W0 W L v) u z->Rd W' (WE W0 W' (add L i)<|X7 v (16+i) x) u z:=λN=>N.keep (λb d=>q.block b (B b d).1) λb d=>(B b d).2;refine⟨C.b.trans<|q.mono C.b.size,λj f a=> ?_,λj f a=> ?_,λa=> ?_,λa=> ?_,λa=> ?_,λa=> ?_⟩;by_cases e:j=i;subst e;rw[Sc];exact H f;rw[ZR e]at a;rw[T8 v x Z0];exact C.eq j f a;by_cases e:j=i;subst e;rw[Sc];refine(K f).mono λb d=> ?_;refine⟨Z6H C.b.size d.1,d.2,λl=> ?_⟩;rw[k]at l;rw[v4];obtain⟨c,g,_,p,_⟩:=C.new l;rw[g];intro r;cases r;omega;rw[ZR e]at a;rw[T8 v x Z0];exact t<|C.rd j f a;by_cases e:i=16;subst e;obtain⟨y,g,n⟩:=G rfl;exact⟨y,by rw[<-g];exact Sc _ _ _,λj f=>t<|n j f⟩;rw[ZR<|Z8d e]at a;obtain⟨y,g,n⟩:=C.agg a;exact⟨y,by rw[T8 v x Z0];exact g,λj f=>t<|n j f⟩;rw[k]at a;obtain⟨c,g,n,p,r⟩:=C.new a;refine⟨c,by rw[v4];exact g,n,Z6o p q.size,λw=> ?_⟩;rw[o]at w;exact(q.block c p).trans (r w);rw[o]at a;obtain⟨c,y,g,n,p,r⟩:=C.put a;exact⟨c,y,by rw[v4];exact g,n,(q.block c<|ZL p).trans p,λj f=>t<|r j f⟩;rw[o]at a;rw[k];exact C.sp a
def FlC.pure(C:FlC W0 bh h src L v W){i s:Nat}(a:XM i)(g:s=16+i){x:Za}(f:x=Uf bh h src i):FlC W0 bh h src (add L i) (X7 v s x) W:=
 C.step (by unfold XM at a;omega) g (Z6r _ _) (λ_=>f) (λd=>by unfold XM at a;unfold Xr at d;omega) (λe=>by unfold XM at a;omega)
def FlC.call(C:FlC W0 bh h src L v W){i s:Nat}(a:Xr i)(j:s=16+i){x:Za}(f:Below (xz<|xj W) W W')(g:Rd W' (λb=>xz (xj W)<=b/\b<xz (xj W')) (.sl<|(VS h i).map vu) x):FlC W0 bh h src (add L i) (X7 v s x) W':=
 C.step (by unfold Xr at a;omega) j f (λd=>by unfold XM at d;unfold Xr at a;omega) (λ_=>g) (λe=>by unfold Xr at a;omega)
def FlC.built(C:FlC W0 bh h src L v W)(k:L 9=xk)(f:L 12=xk)(g:L 15=xk):FlC W0 bh h src (add L 16) (X7 v 32<|.agg (VA h λi=>v<|16+i)) W:=
 C.step Z0 rfl (Z6r _ _) (λa=>by unfold XM at a;omega) (λa=>by unfold Xr at a;omega) λ_=>⟨_,rfl,λj d=>C.rd j d (by unfold Xr at d;obtain rfl|rfl|rfl:=d<;>assumption)⟩
def FlC.alloc(C:FlC W0 bh h src L v W)(g:L 17=xw):FlC W0 bh h src (add L 17) (X7 v 4<|.pointer<|J ⟨xz<|xj W,0,U⟩)<|W.alloc<|.cells ZE 31:=by
 have k:L 18=xw:=by
  cases e:L 18 with
  |false=>rfl
  |true=>have:=C.sp e;rw[g]at this;cases this
 have o:Below (xz<|xj W) W<|W.alloc<|.cells ZE 31:=(Z6r _ _).alloc (Z6i _) _;have p:xz (xj<|W.alloc<|.cells ZE 31)=xz (xj W)+1:=Z1;have n:∀b,WE W0 W L v b->b<xz (xj W)/\WE W0 (W.alloc<|.cells ZE 31) (add L 17) (X7 v 4<|.pointer<|J ⟨xz<|xj W,0,U⟩) b:=λb d=>by
  obtain⟨w,x,A⟩:=d;refine⟨x,w,Z0,λ_=> ?_⟩;rw[Sc];intro e;cases e;omega
 have q:∀ {u:V} {z:Za},Rd W (WE W0 W L v) u z->Rd (W.alloc<|.cells ZE 31) (WE W0 (W.alloc<|.cells ZE 31) (add L 17)<|X7 v 4<|.pointer<|J ⟨xz<|xj W,0,U⟩) u z:=λp=>p.keep (λb d=>o.block b (n b d).1) λb d=>(n b d).2;refine⟨C.b.trans<|o.mono C.b.size,λj f a=> ?_,λj f a=> ?_,λa=> ?_,λa=> ?_,λa=> ?_,λa=> ?_⟩;have l:j<15:=f.1;rw[ZR Z0]at a;rw[T8 _ _ Z0];exact C.eq j f a;have l:j<17:=by unfold Xr at f;omega
 rw[ZR Z0]at a;rw[T8 _ _ Z0];exact q<|C.rd j f a;rw[ZR Z0]at a;obtain⟨y,r,t⟩:=C.agg a;exact⟨y,by rw[T8 _ _ Z0];exact r,λj f=>q<|t j f⟩;exact⟨xz<|xj W,Sc _ _ _,C.b.size,Z0,λ_=>Z6u W _⟩;rw[ZR Z0,k]at a;cases a;exact VL _ _
def FlC.store(C:FlC W0 bh h src L v W){c:Nat}(o:v 4=.pointer (J ⟨c,0,U⟩)){y:Z3}(O:v 32=.agg (VA h y))(g:L 17=xk)(h16:L 16=xk)(S:L 18=xw)(D:W.heap[c]?=J (.cells ZE 31 (0,0)))
  (K:∀b,b≠c->W'.heap[b]?=W.heap[b]?) (T:xz (xj W')=xz (xj W)) (N:W'.heap[c]?=J (.cells (VA h y) 31 (0,0))) (M:Below (xz<|xj W0) W W'):FlC W0 bh h src (add L 18) v W':=by
 have k:add L 18 17=L 17:=ZR Z0;have A:∀b,WE W0 W L v b->b≠c/\WE W0 W' (add L 18) v b:=λb a=>by
  obtain⟨H,R,x⟩:=a;refine⟨λe=> ?_,H,Z0,by rw[k];exact x⟩;subst e;exact x g o
 have r:∀ {u:V} {z:Za},Rd W (WE W0 W L v) u z->Rd W' (WE W0 W' (add L 18) v) u z:=λD=>D.keep (λb a=>K b (A b a).1) λb a=>(A b a).2;obtain⟨P,l,n,Q,_⟩:=C.new g;rw[o]at l;cases l;refine⟨C.b.trans M,λj d f=> ?_,λj d f=> ?_,λf=> ?_,λf=> ?_,λf=> ?_,λf=>by rw[k];exact g⟩;have p:j<15:=d.1;rw[ZR Z0]at f;exact C.eq j d f;have p:j<17:=by unfold Xr at d;omega
 rw[ZR Z0]at f;exact r<|C.rd j d f;obtain⟨y,l,n⟩:=C.agg h16;exact⟨y,l,λj d=>r<|n j d⟩;refine⟨c,o,n,Z0,λw=> ?_⟩;rw[VL]at w;cases w;obtain⟨F,t,G⟩:=C.agg h16;rw[O]at t;have q:∀i,Xr i->F i=y i:=λi B=>by
  have e:VA h y=VA h F:=by injection t
  unfold VA at e;unfold Xr at B;simp at e;obtain rfl|rfl|rfl:=B;exact e.1.symm;exact e.2.1.symm;exact e.2.2.symm
 exact⟨c,y,o,n,N,λj d=>by rw[<-q j d];exact r<|G j d⟩
end
end
end Vm
end
section
namespace Vm
open Go Go.Proofs
section
def flip0(h:Hp):Hp:=⟨h.V,h.cap,1-h.to,xw,0,[],[],h.H,h.aa,h.E⟩
def Uh(g:Hp)(i:Nat):Hp:= {(fwd g<|(g.E[i]?).getD 0).2.1 with E:=(fwd g<|(g.E[i]?).getD 0).2.1.E.set i (fwd g<|(g.E[i]?).getD 0).1}
def flipL(g:Hp):Nat->Hp
 |0=>g
 |i+1=>Uh (flipL g i) i
def V1(g:Hp):Hp:=if 0<(I g.H) then {g with M:=xk}else {g with M:=xw,ad:=[],ae:=[]}
def Xb(h:Hp):Hp:=V1<|flipL (flip0 h)<|I h.E
def Stands.ad{ws:Z5}{o:Ob}(s:Stands ws xw o):Stands ws xk o:=by
 obtain⟨w,f,a⟩:=s.cm;have d:o.gone=xw:=by
  cases d:o.gone;rfl;rw[Z6k d]at a;cases a.1
 refine⟨s.gd,s.shape,s.ah,s.ew,w,f,?_⟩;rw[Z6h (by simp[d])]at a⊢;exact⟨λ_=>AI (by rw[a.2.1]),a.2⟩
def Tiles.ad{ws:Z5}:∀ {a:Nat} {l:Z8},Tiles ws xw a l->Tiles ws xk a l
 |_,[],h=>h
 |_,_::_,h=>⟨h.1,h.2.1.ad,Tiles.ad h.2.2⟩
def G8{l:Z8}(h:∀o∈l,o.gone=xw):Yi l=VJ l:=by
 have:=Z1E l;have:yu l=0:=Z0R λo a=>by rw[h o a];rfl
 omega
def RG(p:Pts):Pts:=⟨[],[],p.H,p.aa⟩
section
variable {h:Hp}{p:Pts}
def KJ(h:Hp)(k a:Int)(d:k=1\/k=2):ZG (Zv<|flip0 h) (k+2) a=ZG (Zv h) k a:=by
 obtain rfl|rfl:=d;show 2*(h.V+(1- (1-h.to))*h.cap+a)+1=2*(h.V+h.to*h.cap+a)+1;rw[show 1- (1-h.to)=h.to by omega];show 2*(h.V+(1- (1-h.to))*h.cap+(h.cap-I h.aa)+a)+1=2*(h.V+h.to*h.cap+(h.cap-I h.aa)+a)+1;rw[show 1- (1-h.to)=h.to by omega]
def KI{w:Int}(d:Gos h p w 1 2):Gos (flip0 h) (RG p) w 3 4:=by
 obtain rfl|⟨k,o,f,a,rfl⟩:=d;exact .inl rfl;obtain rfl|rfl:=f;exact .inr ⟨3,o,.inl rfl,a,(KJ h 1 _<|.inl rfl).symm⟩;exact .inr ⟨4,o,.inr rfl,a,(KJ h 2 _<|.inr rfl).symm⟩
def KH(r:Rt h p)(z:h.M=xw):Body (flip0 h)<|RG p:=by
 have N:=Xe.1 r.al;have l:=r.af 1 Z0;have q:=r.af 2 Z0;simp only[Xn,Uq,Pts.lw,Pts.rm]at l q;refine⟨⟨Xe.2 ?_,λk x=> ?_⟩,λk x o d g=> ?_,λk x o d g j u w y=> ?_,?_⟩;have B:(Zv h).cap=h.cap:=rfl;have C:(Zv h).V=h.V:=rfl;have D:(Zv h).to=h.to:=rfl;have F:(Zv h).H=I h.H:=rfl;have G:(Zv h).aa=I h.aa:=rfl;simp only[Zv,flip0,Z7v];omega;have f:k=1\/k=2\/k=3\/k=4:=Z0;obtain rfl|rfl|rfl|rfl:=f;exact Z6i 0;exact Z6i 0;exact l.ad;exact q.ad;have f:k=3\/k=4:=Z0;obtain rfl|rfl:=f;have:=l.bi o d;rw[g]at this;cases this;have:=q.bi o d;rw[g]at this;cases this;have f:k=1\/k=2\/k=3\/k=4:=Z0;obtain rfl|rfl|rfl|rfl:=f;cases d;cases d;have:=r.ptr 1 Z0 o d g j u w y;obtain⟨a,n,m,H,K,em,t,_⟩:=r.toTld.ob (k:=1) Z0 d;simp only[Xn]at t;unfold Yz at this⊢;rw[Z6h Z0,Z6h (by rw[(r.df z).1];omega)]at this;rw[Z6k Z0];exact KI this;have:=r.ptr 2 Z0 o d g j u w y;unfold Yz at this⊢;rw[Z6h Z0,Z6h Z0]at this;rw[Z6k Z0];exact KI this;have L:=l.sum<|Z7T _;have M:=q.sum<|Z7T _;have O:=G8 l.bi;have P:=G8 q.bi;have A:=r.cx;simp only[Yt,RG,flip0,Z7v];omega
structure FlipI (h:Hp) (p:Pts) (i:Nat) (g:Hp) (q:Pts):Prop where
 body:Body g q
 dt:UF g q
 ext:Ext (flip0 h) (RG p) {g with E:=h.E} q
 len:I g.E=I h.E
 df:∀j,i<=j->g.E[j]?=h.E[j]?
 rx:∀j:Nat,j<i->∀w v,h.E[j]?=J w->g.E[j]?=J v->Gos g q v 1 2/\Res g q w v
def Body.E(r:Body h p)(l:Z5):Body {h with E:=l} p:=⟨⟨r.al,r.af⟩,r.gone,r.ptr,r.cx⟩
def yl(r:Rt h p){i:Nat}(a:i<xq h.E){g:Hp}{q:Pts}(I:FlipI h p i g q):Gos g q h.E[i] 3 4:=I.ext.na (i:=3) (j:=4) Z0 Z0<|KI<|r.E _<|Z6E a
def BE(r:Rt h p){i:Nat}(y:i<xq h.E){g:Hp}{q:Pts}(I:FlipI h p i g q){v:Int}{a:Hp}{q':Pts}(f:FwdTo g q (h.E[i]) v a q'):FlipI h p (i+1) (Uh g i) q':=by
 have B:g.E[i]?=J h.E[i]:=by rw[I.df i<|Z6i _];exact Z6b y
 have O:=yl r y I;have e:Uh g i= {a with E:=a.E.set i v}:=by
  unfold Uh;rw[B,Z6K,f.fwd]
 have x:a.E=g.E:=f.ext.E;have n:Res a q' h.E[i] v:=by
  obtain⟨K,C,P,Q⟩|B:=f.bj;obtain l|⟨k,o,S,N,D⟩:=O;exact .inl ⟨l,C.trans l⟩;obtain l|⟨T,W,M,A,F⟩:=K;exact .inl ⟨l,C.trans l⟩;obtain⟨R,_⟩:=I.body.toTld.inj Z0 Z0 N A<|D.symm.trans F;omega;exact B
 rw[e];refine⟨f.body.E _,f.dt I.dt,I.ext.trans ⟨f.ext.H,f.ext.aa,f.ext.V,f.ext.cap,f.ext.ou,f.ext.M,f.ext.O,rfl,f.ext.oz,f.ext.np,f.ext.gx,f.ext.ie,f.ext.lp,f.ext.gone,f.ext.cx⟩,?_,λj L=> ?_,λj L w u d t=> ?_⟩;simp only[Z7g,x];exact I.len;simp only;rw[Z6W Z0,x];exact I.df j Z0;simp only at t;by_cases z:j=i;subst z;rw[Z7b (by rw[x,I.len];exact y)]at t;cases t;rw[Z6b y]at d;cases d;exact⟨f.rj,n⟩;rw[Z6W Z0,x]at t;obtain⟨G,H⟩:=I.rx j Z0 w u d t;exact⟨(show Gos a q' u 1 2 from f.ext.na Z0 Z0 G),(show Res a q' w u from H.ext f.ext)⟩
def BD(r:Rt h p){i:Nat}(j:i<xq h.E){g:Hp}{q:Pts}(I:FlipI h p i g q):(∃v d a,FwdTo g q (h.E[i]) v d a)/\∃a,FlipI h p (i+1) (Uh g i) a/\(fwd g<|(g.E[i]?).getD 0).2.2=0:=by
 have l:g.E[i]?=J h.E[i]:=by rw[I.df i<|Z6i _];exact Z6b j
 have k:g.O<=xq g.H:=by
  have:g.O=0:=I.ext.O;omega
 obtain⟨v,d,a,f⟩:=I.body.dx k<|.inr<|yl r j I;exact⟨⟨v,d,a,f⟩,a,BE r j I f,by rw[l,Z6K,f.fwd]⟩
def QS(r:Rt h p)(a:h.M=xw):∀i,i<=xq h.E->∃q,FlipI h p i (flipL (flip0 h) i) q
 |0,_=>⟨RG p,KH r a,λo f=>(by cases f),.refl _ _,rfl,λ_ _=>rfl,λj l=>Z0⟩
 |i+1,k=>by
  obtain⟨q,I⟩:=QS r a i Z0;obtain⟨_,g,d,_⟩:=BD r Z0 I;exact⟨g,d⟩
def BB(r:Rt h p)(H:h.M=xw){g:Hp}{q:Pts}(I:FlipI h p (xq h.E) g q):Rt (V1 g) (if 0<(xq g.H) then q else⟨[],[],[],[]⟩)/\(¬0<xq g.H->g.H=[]/\q.H=[]/\q.aa=[]/\∀w∈g.E,w=0):=by
 have t:g.O=0:=I.ext.O;have f:g.aa=[]:=I.ext.aa;have y:q.aa=[]:=I.ext.ie;have d:∀w∈g.E,Gos g q w 1 2:=λw A=>by
  obtain⟨j,D⟩:=Z6A A;have u:=(Z6d.1 D).1;rw[I.len]at u;exact(I.rx j u _ w (Z6b u) D).1
 have F:xq g.E<=16:=by rw[I.len];exact r.dj
 by_cases x:0<xq g.H;refine⟨?_,λh=>absurd x h⟩;rw[Z6k x];unfold V1;rw[Z6k x];have b:=I.body;exact⟨⟨⟨b.al,b.af⟩,b.gone,b.ptr,b.cx⟩,F,by show 0<=g.O;omega,by show g.O<=xq g.H;omega,λ_=>(by show g.O<xq g.H;omega),λh=>Z5u,λ_=>I.dt,d⟩;have a:g.H=[]:=Z7f.1 Z0;have z:q.H=[]:=by
  have:=I.body.af 1 Z0;simp only[Xn,Pts.lw,a]at this;exact this.nil
 have G:∀w∈g.E,w=0:=λw A=>by
  obtain h|⟨k,o,B,l,_⟩:=d w A;exact h;obtain rfl|rfl:=B;simp only[Pts.lw,z]at l;cases l;simp only[Pts.rm,y]at l;cases l
 refine⟨?_,λ_=>⟨a,z,y,G⟩⟩;rw[Z6h x];unfold V1;rw[Z6h x];have u:=Xe.1 I.body.al;have n:∀k,(⟨[],[],[],[]⟩:Pts).at k=[]:=λk=>by unfold Pts.at;split<;>(try split)<;>(try split)<;>rfl
 have C:∀k,Zw {g with M:=xw,ad:=[],ae:=[]} k=[]:=λk=>by unfold Zw;simp only[a,f];split<;>(try split)<;>(try split)<;>rfl
 refine⟨⟨⟨Xe.2 ?_,λk B=> ?_⟩,λk B o l=> ?_,λk B o l=> ?_,?_⟩,F,by show 0<=g.O;omega,by show g.O<=xq g.H;omega,λh=>Z5u,λ_=>⟨by show g.O=xq g.H;rw[a,t];rfl,rfl,rfl⟩,λh=>Z5u,λw A=>.inl<|G w A⟩;simp only[Zv,Z7v]at u⊢;omega;rw[n,C];exact Z6i _;rw[n]at l;cases l;rw[n]at l;cases l;show(xq g.H:Int)+xq g.aa+Yt ⟨[],[],[],[]⟩<=g.cap;rw[a,f];simp only[Zv]at u;simp[Yt,Yi];omega
def yk(r:Rt h p)(a:h.M=xw):∃g q,FlipI h p (xq h.E) g q/\Xb h=V1 g/\Rt (V1 g) (if 0<(xq g.H) then q else⟨[],[],[],[]⟩)/\(¬0<xq g.H->g.H=[]/\q.H=[]/\q.aa=[]/\∀w∈g.E,w=0):=by
 obtain⟨q,I⟩:=QS r a (xq h.E)<|Z6i _;exact⟨_,q,I,rfl,BB r a I⟩
end
end
end Vm
end
