import Derived.RangeFuncNested
import Derived.RangeFuncBound
import Derived.LoopNIn
import Derived.LoopIn
import Derived.Shelf.RegionOpen
import Derived.RecoverIn
import Derived.Maps.OwnIn
import Derived.Test.YtccfecikcmjnfaaSMeasureFits4
set_option linter.unusedSimpArgs false
set_option linter.unusedVariables false
set_option linter.defProp false
open Option renaming some→J,none→U
open Bool renaming true→xk,false→xw
open Go renaming undef→xy
open List renaming length→I
open Array renaming size→xz
open Go.World renaming heap→xj
open List renaming length→xq
open Array renaming size→xz
open Go.World renaming heap→xj
set_option maxHeartbeats 1000000
set_option maxRecDepth 100000
theorem Zh0{p:Prop}(h:p:=by rw[cell_of_row _ _ _ _ _ _ d.out.2.1];rfl):p:=h
theorem ZgU{p:Prop}(h:p:=by have:=d.out.size;simp at this;omega):p:=h
theorem Zgr{p:Prop}(h:p:=by have:=heap_alloc_new (w.alloc<|.cells #[.int .i64 0,.int .i64 0,.int .i64 0,.bool xw,.int .u64 0] 119)<|.cells #[.int .i64 a,.int .i64 0,.int .i64 0,.bool xw,.int .u64 0] 119;simp_all):p:=h
theorem ZgL{p:Prop}(h:p:=by rw[cell_of_row _ _ _ _ _ _ n];rfl):p:=h
theorem ZgK{p:Prop}(h:p:=by rw[cell_of_row _ _ _ _ _ _ h];rfl):p:=h
theorem ZgM{p:Prop}(h:p:=by rw[cell_of_row _ _ _ _ _ _ u];rfl):p:=h
theorem Zgx{p:Prop}(h:p:=by rw[Zy _ (by omega) (by omega)];omega):p:=h
theorem ZgJ{p:Prop}(h:p:=by rw[cell_of_row _ _ _ _ _ _ F];rfl):p:=h
def Zkb:=@Go.grownBy_putObj'
def Ziz:=@Go.World.alloc_heap_new
def Zjp:=@Go.World.size_alloc
def ZjO:=@Go.World.putObj_heap_same
def ZhZ:=@Go.World.putObj_heap_other
def Zk0:=@eq_false
def Zja:=@Array.replicate_succ
def Zjb:=@Array.replicate_zero
def ZjF:=@List.push_toArray
def Zjh:=@List.append_toArray
def ZjW:=@eq_true
def Zjs:=@Go.callsIn_wide
def ZjL:=@Go.grownBy_setCell'
def ZkA:=@Go.run_takeDeferred
def Zko:=@List.filter_eq_nil_iff
def ZlB:=@decide_true
def ZkX:=@decide_false
def Zla:=@List.sum_cons
def Zlx:=@decide_eq_true
def Zji:=@List.flatMap_append
def ZkB:=@List.drop_append
def ZjQ:=@List.set_cons_zero
def Zkh:=@Nat.add_sub_cancel_left
def Zkf:=@List.mem_replicate
def Zl6:=@List.flatMap_cons
def ZhY:=@List.getElem?_take_of_lt
def Zju:=@List.mem_append_right
section
namespace Vm
open Go Go.Proofs Go.RowKit
section
def EV{α:Type}(F:Fence)(n:Nat)(P:Z6)(g:Nat)(lb:Zb)(d:α->Array Value)(Kp:World->World->Prop)(S:List α->World->Prop)(k:List PanicEntry->List α->World->Prop)(N:Nat)(bt:Option Nat)(j:World->Prop)(w:Z3):Prop:=
 ∀(l:Nat) (o:List α->World->Prop) (W:Z3),Below (xz<|xj w) w W->(∀pre W,o pre W->j W)->(∀s A B row,o s A->A.grownBy B row->(∀r,row=J r->J r=bt)->o s B)->
  (∀pre x f,o pre f->I pre<N->YieldAt F (n-1) P l (d x) f λe a=>e=.returned (.bool xk)/\o (pre++[x]) a/\Kp f a)->
  o [] W->
  CallsIn F n P g (#[.func (.yield l) #[] #[]]++lb) W λe a=>(∃v h,e=.returned v/\S h a/\o h a)\/(∃chain pre,e=.panicked chain/\k chain pre a/\o pre a)
def Z8u{α:Type}(B:Nat)(Kp:World->World->Prop)(I:List α->World->Prop)(xs:List α)(W:Z3):Exit->Act->World->Prop
 |.normal,_,a=>KeepsFrom B W a/\Kp W a/\I xs a
 |_,_,_=>False
def OwnP{β:Type}(bt:Option Nat)(B:Nat)(I:β->World->Prop):Prop:=
 ∀s X Y row,I s X->X.grownBy Y row->(∀r,row=J r->J r=bt\/(B<=r/\∃o:Obj,X.heap[r]?=J o/\o.isCells=xw))->I s Y
def OwnP.putObj{β:Type}{bt:Option Nat}{B:Nat}{I:β->World->Prop}(h:OwnP bt B I){s:β}{W:Z3}{l:Nat}{o:Obj}(a:Obj)(d:I s W)(f:B<=l)(g:W.heap[l]?=J o)(j:o.isCells=xw):I s<|W.putObj l a:=
 h s W _ (J l) d (Zkb W l a) (λr e=>Zgm)
def OwnP.alloc{β:Type}{bt:Option Nat}{B:Nat}{I:β->World->Prop}(h:OwnP bt B I){s:β}{W:Z3}(o:Obj)(a:I s W):I s<|W.alloc o:=
 h s W _ U a (ZiH W o U) (λr e=>by cases e)
variable {F:Fence}{n:Nat}{P:Z6}
def ZbD{α:Type}{g:Operand}{ps:Array Tmp}{assign body:Code}{Q:Zh}{a:Act}{w:Z3}
  (d7:F.round=U) (h1:1<=n) {gf:Nat} {lb:Zb} (hg:a.eval g=.func (.func gf) #[] lb) (d8:F.fn gf) (eg:∀args w,(callFunc gf args).run P w=.ok (.enter gf args) w)
  {f:α->Array Value} {Kp:World->World->Prop} {S:List α->World->Prop} {Pp:List PanicEntry->List α->World->Prop} {N:Nat} {bt:Option Nat} {Ex:World->Prop} {w0:Z3} (a8:EV F (n-1) P gf lb f Kp S Pp N bt Ex w0)
  (b5:∀r,bt=J r->r<xz (xj w))
  (T:∀ {A B C:Z3},Kp A B->Kp B C->Kp A C) (a1:∀(W:Z3) (l:Nat) (o o':Obj),xz (xj w)<=l->W.heap[l]?=J o->o.isCells=xw->o.isWalk=xw->Kp W (W.putObj l o')) (a2:Below (xz<|xj w0) w0 w) (d9:∀x,(f x).size=ps.size)
  (I:List α->World->Prop) (hI:OwnP bt (xz<|xj w) I) (b0:∀pre W,I pre W->Ex W) (h0:I [] w) (hS:OwnP U (xz<|xj w) S) (Ax:α->Act->World->Prop) (a9:∀x G,OwnP U (xz<|xj w)<|λ(_:Unit) W=>Ax x G W)
  (q:∀(l:Nat) (pre:List α) (x:α) (W:Z3) (K:Zq),I pre W->(∀G W',KeepsFrom (xz<|xj w) W W'->Kp W W'->I pre W'->Ax x G W'->K G W')->
   assign.wpIn (F.inRound l) (n-1-1) P (Exit.then K<|λ_ _ _=>False) {tmps:=(ps.zip<|f x).foldl (λt (p,v)=>t.setIfInBounds p v) a.tmps,defers:=[]} W)
  (X:∀(l:Nat) (pre:List α) (x:α) (G:Act) (W:Z3),I pre W->Ax x G W->xq pre<N->body.wpIn (F.inRound l) (n-1-1) P (Z8u (xz<|xj w) Kp I (pre++[x]) W) G W)
  (Y:∀(D:Nat) (xs:List α) (W:Z3),xz (xj w)<=D->S xs W->I xs W->W.heap[D]?=J (.deferred<|J [])->Q .normal {a with defers:= {target:=.collected D,args:=#[]}::a.defers} W)
  (M:∀(D:Nat) (chain:List PanicEntry) (pre:List α) (W:Z3),xz (xj w)<=D->Pp chain pre W->I pre W->W.heap[D]?=J (.deferred<|J [])->Q (.panic chain) {a with defers:= {target:=.collected D,args:=#[]}::a.defers} W):
  (Code.rangeFunc g ps assign body).wpIn F n P Q a w:=by
 refine wpIn_rangeFunc λfn b7=> ?_;rw[d7];obtain⟨d,z⟩:∃d:LoopState->Option Code->Loop,d=λst pe=> {state:=st,pending:=pe,fn,tmps:=a.tmps,params:=ps,assign,body,defers:=xz (xj w)}:=⟨_,rfl⟩;obtain⟨H,L⟩:∃H,(w.alloc<|.deferred<|J []).alloc (.loop<|d .ready U)=H:=⟨_,rfl⟩;have b2:H.heap[xz (xj w)+1]?=J (.loop<|d .ready U):=by
  have:=Ziz (w.alloc<|.deferred<|J [])<|.loop<|d .ready U;rw[Zjp]at this;rw[<-L];exact this
 have b1:H.heap[xz<|xj w]?=J (.deferred<|J []):=by
  rw[<-L];exact(Zhz _ _ _ Z1).trans (Ziz w _)
 have b4:Below (xz<|xj w0) w0 H:=by
  rw[<-L];exact a2.trans<|(((ZhH _ w).alloc (Zhm _) _).alloc Z1 _).mono a2.size
 refine⟨xz (xj w)+1,[{target:=.collected<|xz<|xj w,args:=#[]}],H,{target:=.fn (.func gf) lb,args:=#[.func (.yield<|xz (xj w)+1) #[] #[]]},H,gf,
  #[.func (.yield<|xz (xj w)+1) #[] #[]]++lb,H,?_,?_,?_,?_,λ_=>h1,?_⟩
 simp_all[run_enterLoop_outer]
 .simp only[resolve,hg];simp[go_sem]
 simp_all[Target.leads];simp_all[invoke];have R:∀ {A B:Z3} {row:Option Nat} {k:Nat} {o:Obj},A.grownBy B row->(∀r,row=J r->J r=bt)->xz (xj w)<=k->A.heap[k]?=J o->B.heap[k]?=J o:=by
  intro A B row k o u hr hk ho;refine(u.block k (Zho.1 ho).1 λe=> ?_).trans ho;have:=b5 k (hr k e.symm).symm;omega
 refine(a8 (xz (xj w)+1) (λpre W=>I pre W/\W.heap[xz (xj w)+1]?=J (.loop<|d .ready U)/\W.heap[xz<|xj w]?=J (.deferred<|J [])) H b4 (λpre W h=>b0 pre W h.1)
  (λs A B row hs u hr=>⟨hI s A B row hs.1 u (λr e=>.inl<|hr r e),R u hr Z0 hs.2.1,R u hr (Zhm _) hs.2.2⟩) ?_ ⟨by rw[<-L];exact hI.alloc _<|hI.alloc _ h0,b2,b1⟩).mono ?_
 rintro pre x W ⟨hi,Z,hk⟩ a7;have hy:=run_yield (P:=P) (args:=f x) Z Zgm;rw[z]at hy;refine⟨fn,_,assign,body,hy,roundIn_of_wpIn b7<|q _ pre x W _ hi ?_⟩;intro G V a5 c8 b9 b3;have y:=a5.same _ _ Z0 Z rfl;have c1:=a5.same _ _ (Zhm _) hk rfl;have d5:xz (xj w)+1<xz (xj V):=(Zho.1 y).1;refine⟨_,run_beginRound y (by rw[z]),?_⟩;have d0:(V.putObj (xz (xj w)+1)<|.loop {d .ready U with state:=.busy}).heap[xz (xj w)+1]?=J (.loop {d .ready U with state:=.busy}):=ZjO d5;have c0:(V.putObj (xz (xj w)+1)<|.loop {d .ready U with state:=.busy}).heap[xz<|xj w]?=J (.deferred<|J []):=(ZhZ Z0).trans c1;have d6:Kp V<|V.putObj (xz (xj w)+1)<|.loop {d .ready U with state:=.busy}:=a1 _ _ _ _ Z0 y rfl rfl;refine wpIn_mono (X _ pre x G _ (hI.putObj _ b9 Z0 y rfl) ((a9 x G).putObj (s:=()) _ b3 Z0 y rfl) a7) ?_;rintro e a3 W3 O;cases e with
 |normal=>
  obtain⟨a4,a6,b8⟩:=O;have a0:=a4.same _ _ Z0 d0 rfl;have b6:=a4.same _ _ (Zhm _) c0 rfl;have j:=run_endRound (P:=P) U a0;refine⟨_,_,j,rfl,⟨hI.putObj _ b8 Z0 a0 rfl,?_,(ZhZ Z0).trans b6⟩,T c8<|T (T d6 a6)<|a1 _ _ _ _ Z0 a0 rfl rfl⟩;grind [World.putObj_heap_same,Array.getElem?_eq_some_iff]
 |ret=>exact O.elim
 |exit id=>exact O.elim
 |goto t=>exact O.elim
 |panic ch=>exact O.elim
 |outgrown=>exact O.elim
 rintro e W2 (⟨v,xs,rfl,hs,hi,Z,hk⟩|⟨chain,pre,rfl,O,hi,Z,hk⟩);have j:=run_endLoop (P:=P) Z Zgm;rw[z]at j;exact⟨U,_,j,Y _ xs _ (Zhm _) (hS.putObj _ hs Z0 Z rfl) (hI.putObj _ hi Z0 Z rfl)<|(ZhZ Z0).trans hk⟩;exact M _ chain pre _ (Zhm _) O hi hk
end
end Vm
end
section
namespace Vm
open Go Go.Proofs
def MZ:Fn:=⟨4,[0,2,3,4],pQ [pR [pV 1 pF],pC [pK 4 56 [.s 0]] [pV 2<|.ext (.s 4) 0,pV 3<|.ext (.s 4) 1],.ao ⟨[.lt 5 []<|pe (.s 0)<|pU 0],[([(5,xw)],pe (.s 3)<|pI 0)],[pV 1<|.ite (.s 5) pT<|pe (.s 3)<|pI 0]⟩] .ret,[(1,.v)]⟩
def Z32:ZY [.fz] Try.f103=J MZ:=Z2
end Vm
end
section
namespace Vm
open Go Go.Proofs Go.RowKit
def Z8t{x:Int}(hx:ZB x):VC xP 103 xw [vu x]<|.bool<|VZ x:=by
 refine ZR EY follows Z2 Z32 rfl ?_;simp[MZ];refine Zz (Ko hx) Z1 ?_;simp_all[VZ]
def O8{x:Int}(hx:ZB x)(w:World):Calls xP 103 #[.int .u64 x] w λe a=>e=.returned (.bool<|VZ x)/\Below (xz<|xj w) w a:=
 TC (Z8t hx) rfl rfl w
structure Words (w:World) (ws:List Int) (g o cap:Nat):Prop where
 Z:∀(i:Nat) (x:Int),ws[i]?=J x->w.cell? ⟨g,o+i,U⟩=J (.int .u64 x)
 le:I ws<=cap
 cap:cap<=maxLen
 len:I ws<=1000000
 u64:∀x∈ws,ZB x
def Vu(e:Int):List PanicEntry:=[{v:=.iface 166<|.agg #[.int .i64 e],recovered:=xw}]
def WQ(o:Ob):Value:=.agg #[.int .i64 o.Z,.int .i64 o.size,.int .i64 o.M,.bool o.gone,.int .u64 o.target]
def yG(ws:List Int)(o:Ob):Ending:=
 if(I ws:Int)<o.Z+1+o.size then .panicked (Vu 2)else if XQ ((ws.drop<|o.Z.toNat+1).take o.size.toNat) o.gone o.M 0=xw then .panicked (Vu 3)else .returned<|.tuple #[]
def Z4w(w:World)(ws:List Int)(g o cap:Nat)(C:Words w ws g o cap)(hg:g<xz (xj w))(t:Ob)(a:Nat)(N:t.Z=a)(A:a<I ws)(B:YC t.size t.M=xk):
  Calls xP 102 #[.slice (J ⟨g,o,U⟩) (I ws) cap,WQ t] w λe w'=>e=yG ws t/\Below (xz<|xj w) w w':=by
 have hl:=C.len;have hc:=C.le;have hm:=C.cap;obtain⟨at_,size,ptrs,gone,target⟩:=t;simp only at N B;subst N;obtain⟨s1,s2,s3,s4⟩:=Yy.1 B;obtain⟨m,rfl⟩:=Zhy s1;have L:=Zhp C;have r:yG ws ⟨a,m,ptrs,gone,target⟩=if(I ws:Int)<a+1+m then .panicked (Vu 2)else if XQ ((ws.drop<|a+1).take m) gone ptrs 0=xw then .panicked (Vu 3)else .returned<|.tuple #[]:=rfl
 generalize yG ws ⟨a,m,ptrs,gone,target⟩=E at*;unfold WQ;dsimp only;by_cases l:(I ws:Int)<a+1+m
 .rw[Zht l]at r;have u:=Zhp r;clear r;have S:((I ws- (a+1):Nat):Int)<m:=Z0;go_enter zH,Try.ntmps102;go_wp2;all_goals exact⟨rfl,u.out.symm,(ZhH _ _).alloc (Zhm _) _⟩
 .rw[Zhs l]at r;have u:=Zhp r;clear r;have P:(m:Int)<=((I ws- (a+1):Nat):Int):=Z0;have Q:m<=I ws- (a+1):=Z0;have T:(I ws- (a+1)<m)=False:=Zk0 Z0;have Z:m<=cap- (a+1):=Z0;have a0:m<=255:=Z0;clear C l;by_cases z:cap=a+1
  .have K:m=0:=Z0;subst K;subst z;go_enter zH,Try.ntmps102;go_wp2;go_loopw [26] (λi wr=>i=.int .i64 0/\Hid (Below (xz<|xj w) w wr)) (λi _=>0)
   case atStart=>exact⟨rfl,Zhp<|(ZhH _ _).alloc (Zhm _) _⟩
   case round=>
    obtain⟨rfl,X⟩:=hrel;go_wp2;go_end0
    exact⟨u.out.symm,X.out⟩
  .go_enter zH,Try.ntmps102;go_wp2
   go_loopw [26] (λi wr=>∃k:Nat,i=.int .i64 k/\k<=m/\Hid (Below (xz<|xj w) w wr/\wr.heap[xz<|xj w]?=J (.cells #[.int .i64 a,.int .i64 m,.int .i64 ptrs,.bool gone,.int .u64 target] 119 (0,0))/\
     XQ ((ws.drop<|a+1).take m) gone ptrs 0=XQ (((ws.drop<|a+1).take m).drop k) gone ptrs k)) (λi _=>m- (intOf i).toNat)
   case atStart=>exact⟨0,rfl,Z0,Zhp ⟨(ZhH _ _).alloc (Zhm _) _,ZhT w _,rfl⟩⟩
   case round=>
    obtain⟨k,rfl,hk,d⟩:=hrel;by_cases A:k<m
    .obtain⟨x,D⟩:∃x,ws[a+1+k]?=J x:=⟨_,Zhi Z0⟩;have W:ZB x:=L.out.u64 x<|Zhq D;have M:((ws.drop<|a+1).take m)[k]?=J x:=by
      rw[ZhV,Zht A,ZhM];exact D
     have c0:wr.cell? ⟨g,o+(a+1)+k,U⟩=J (.int .u64 x):=by
      rw[Ziw];exact(d.out.1.cell (p:=⟨g,o+(a+1+k),U⟩) hg).trans (L.out.Z _ _ D)
     have c1:wr.cell? ⟨xz<|xj w,1,U⟩=J (.int .i64 m):=Zh0;have c2:wr.cell? ⟨xz<|xj w,2,U⟩=J (.int .i64 ptrs):=Zh0;have c3:wr.cell? ⟨xz<|xj w,3,U⟩=J (.bool gone):=Zh0;have q:=ZaD (gone:=gone) (ptrs:=ptrs) M;have R:(k:Int)<m:=Z0;have G:=Y7 d.out.2.1;clear D M;have stop:XQ (((ws.drop<|a+1).take m).drop k) gone ptrs k=xw->E=.panicked (Vu 3):=λh=>by
      rw[u.out,d.out.2.2,h,Zht rfl]
     cases gone
     .by_cases hp:(k:Int)<ptrs
      .cases H:VZ x
       .have f:=Zhp<|stop Zgm;clear stop q;go_wp2_with (go_at_call 103;refine(O8 W _).mono ?_;rintro e w1 ⟨rfl,j⟩;have n:=Zhp j;clear j)
        exact⟨rfl,f.out.symm,d.out.1.trans<|n.out.mono d.out.1.size⟩
       .have y:=Zhp<|q.trans (by simp[H]:_=XQ (((ws.drop<|a+1).take m).drop<|k+1) xw ptrs (k+1));clear stop q;go_wp2_with (go_at_call 103;refine(O8 W _).mono ?_;rintro e w1 ⟨rfl,j⟩;have n:=Zhp j;clear j)
        go_wp2;go_roundw
        case rel=>
         exact⟨k+1,by go_num,Z0,Zhp ⟨d.out.1.trans<|n.out.mono d.out.1.size,(n.out.block _ G).trans d.out.2.1,d.out.2.2.trans y.out⟩⟩
        case measure=>grind [intOf]
      .have y:=Zhp<|q.trans (by simp[hp]:_=XQ (((ws.drop<|a+1).take m).drop<|k+1) xw ptrs (k+1));clear stop q;go_wp2;go_roundw
       case rel=>exact⟨k+1,by go_num,Z0,Zhp ⟨d.out.1,d.out.2.1,d.out.2.2.trans y.out⟩⟩
       case measure=>grind [intOf]
     .by_cases Y:x=0
      .subst Y;have y:=Zhp<|q.trans (by simp[VZ]:_=XQ (((ws.drop<|a+1).take m).drop<|k+1) xk ptrs (k+1));clear stop q;go_wp2;go_roundw
       case rel=>exact⟨k+1,by go_num,Z0,Zhp ⟨d.out.1,d.out.2.1,d.out.2.2.trans y.out⟩⟩
       case measure=>grind [intOf]
      .have f:=Zhp<|stop Zgm;clear stop q;go_wp2;exact⟨rfl,f.out.symm,d.out.1⟩
    .have:k=m:=Z0;subst this;have F:=d.out.2.2;have O:((ws.drop<|a+1).take k).drop k=[]:=Zj1 Zgm;rw[O]at F;have f:=Zhp<|u.out.trans (by rw[F];rfl:_=Ending.returned (.tuple #[]));clear F O;go_wp2;go_end0
     exact⟨f.out.symm,d.out.1⟩
end Vm
namespace Vm
open Go Go.Proofs Go.RowKit
def Z6S(w:World):Sem.run xP (binOp .neq 167 .nilFunc .nilFunc) w=.ok (.bool xw) w:=Zhb
def C6(w:World)(f:FuncId)(vs:Array Value):Sem.run xP (binOp .neq 167 (.func (.func f) #[] vs) .nilFunc) w=.ok (.bool xk) w:=Zhb
def jm{w:World}{b T v0 v1 d f v4}(h:w.heap[b]?=J (.cells #[v0,v1,d,f,v4] T (0,0)))O:
  ((w.alloc O).cell? ⟨b,0,U⟩=J v0/\(w.alloc O).cell? ⟨b,1,U⟩=J v1/\(w.alloc O).cell? ⟨b,2,U⟩=J d/\(w.alloc O).cell? ⟨b,3,U⟩=J f/\(w.alloc O).cell? ⟨b,4,U⟩=J v4)/\
  (w.alloc O).frozen? ⟨b,0,U⟩=xw/\(w.alloc O).frozen? ⟨b,1,U⟩=xw/\(w.alloc O).frozen? ⟨b,2,U⟩=xw/\(w.alloc O).frozen? ⟨b,3,U⟩=xw/\(w.alloc O).frozen? ⟨b,4,U⟩=xw:=by
 have a:(w.alloc O).heap[b]?=J _:=(Zhz _ _ _ Zgl).trans h;refine⟨⟨?_,?_,?_,?_,?_⟩,Yp a,Yp a,Yp a,Yp a,Yp a⟩<;>(rw[Zhv _ _ _ _ _ _ a];rfl)
def R2(a:Nat)(x:Int):Ending:=if(ZQ x).2.2=0 then .returned (WQ ⟨a,(ZQ x).1,(ZQ x).2.1,xw,0⟩)else .panicked<|Vu 3
def Z2R(w:World)(ws:List Int)(g o cap:Nat)(n:Words w ws g o cap)(L:g<xz (xj w))(a:Nat)(x:Int)(hx:ws[a]?=J x):
  Calls xP 101 #[.slice (J ⟨g,o,U⟩) (I ws) cap,.int .i64 a,.nilFunc] w λe N=>e=R2 a x/\Below (xz<|xj w) w N:=by
 have Y:=n.len;have X:=n.le;have Z:=n.cap;have M:a<I ws:=(Zhj.1 hx).1;have A:(a:Int)<I ws:=Z0;have q:ZB x:=n.u64 x<|Zhq hx;have C:=n.Z a x hx;have z:∀W,Below (xz<|xj w) w W->W.cell? ⟨g,o+a,U⟩=J (.int .u64 x):=λW K=>(K.cell (p:=⟨g,o+a,U⟩) L).trans C;have l:R2 a x=if(ZQ x).2.2=0 then .returned (WQ ⟨a,(ZQ x).1,(ZQ x).2.1,xw,0⟩)else .panicked<|Vu 3:=rfl
 generalize R2 a x=E at*;have y:=Zhp z;have B:=Z6S;clear n hx z;by_cases t:(ZQ x).2.2=0
 .rw[Zht t]at l;have r:=Zhp l;clear l;go_enter RW,Try.ntmps101
  go_wp2_with (first
   |(go_at_call 56;refine(SZ q _).mono ?_;rintro e w1 ⟨rfl,f⟩;have d:=Zhp f;have D:=y.out w1<|((((ZhH _ w).alloc (Zhm _) _).alloc (by simp) _).trans<|f.mono (by simp;omega));clear f)
   | (go_at_call 61;refine(Ka q _).mono ?_;rintro e w2 ⟨rfl,h⟩;have j:=Zhp h
      have H:=d.out.block;have r0:w2.heap[xz<|xj w]?=J (.cells #[.int .i64 0,.int .i64 0,.int .i64 0,.bool xw,.int .u64 0] 119 (0,0)):=(h.block _ ZgU).trans<|(d.out.block _ Zgn).trans<|(Zhz _ _ _ Z1).trans<|ZhT w _;have u:w2.heap[xz (xj w)+1]?=J (.cells #[.int .i64 a,.int .i64 0,.int .i64 0,.bool xw,.int .u64 0] 119 (0,0)):=(h.block _ ZgU).trans<|(d.out.block _ Z1).trans Zgr;obtain⟨⟨O,P,Q,R,S⟩,y0,y1,y2,y3,y4⟩:=jm r0<|.cells #[.int .i64 (ZQ x).1,.int .i64 (ZQ x).2.1] 39;obtain⟨⟨p0,p1,p2,p3,p4⟩,q0,q1,q2,q3,q4⟩:=jm u<|.cells #[.int .i64 (ZQ x).1,.int .i64 (ZQ x).2.1] 39;have T:=Zhp<|And.intro r0 u;clear h H r0 u))
  refine Zi8 (v:=WQ ⟨a,(ZQ x).1,(ZQ x).2.1,xw,0⟩) ?_ rfl ⟨r.out.symm,?_⟩
  .simp[results,Try.results101,go_sem,WQ,O,P,Q,R,S]
  have k:=(((ZhH _ w).alloc (Zhm _)<|.cells #[.int .i64 0,.int .i64 0,.int .i64 0,.bool xw,.int .u64 0] 119).alloc Z1<|.cells #[.int .i64 a,.int .i64 0,.int .i64 0,.bool xw,.int .u64 0] 119).trans<|d.out.mono Zgn;have G:=(k.trans<|j.out.mono (by have:=k.size;omega)).alloc (by have:=k.size;have:=j.out.size;omega)<|.cells #[.int .i64 (ZQ x).1,.int .i64 (ZQ x).2.1] 39;exact((((((G.setCell (p:=⟨xz (xj w)+1,1,U⟩) Z1 _).setCell (p:=⟨xz (xj w)+1,2,U⟩) Z1 _).setCell (p:=⟨xz<|xj w,0,U⟩) (Zhm _) _).setCell (p:=⟨xz<|xj w,1,U⟩) (Zhm _) _).setCell (p:=⟨xz<|xj w,2,U⟩) (Zhm _) _).setCell (p:=⟨xz<|xj w,3,U⟩) (Zhm _) _).setCell (p:=⟨xz<|xj w,4,U⟩) (Zhm _) _
 .rw[Zhs t]at l;have r:=Zhp l;clear l;have F:((ZQ x).2.2=0)=False:=Zk0 t;go_enter RW,Try.ntmps101
  go_wp2_with (first
   |(go_at_call 56;refine(SZ q _).mono ?_;rintro e w1 ⟨rfl,f⟩;have d:=Zhp f;have D:=y.out w1<|((((ZhH _ w).alloc (Zhm _) _).alloc (by simp) _).trans<|f.mono (by simp;omega));clear f)
   |(go_at_call 61;refine(Ka q _).mono ?_;rintro e w2 ⟨rfl,h⟩;have j:=Zhp h;clear h))
  refine⟨rfl,r.out.symm,?_⟩;have k:=(((ZhH _ w).alloc (Zhm _)<|.cells #[.int .i64 0,.int .i64 0,.int .i64 0,.bool xw,.int .u64 0] 119).alloc Z1<|.cells #[.int .i64 a,.int .i64 0,.int .i64 0,.bool xw,.int .u64 0] 119).trans<|d.out.mono Zgn;exact(k.trans<|j.out.mono (by have:=k.size;omega)).alloc (by have:=k.size;have:=j.out.size;omega) _
end Vm
namespace Vm
open Go Go.Proofs Go.RowKit
def Ps(s p:Int)(w:World):Calls xP 38 #[.agg #[.int .i64 s,.int .i64 p]] w λe a=>e=.returned (.bool<|YC s p)/\Below (xz<|xj w) w a:=
 TC Dj rfl rfl w
structure Shps (w:World) (shs:List<|Int×Int) (bs:Nat) (v:Value):Prop where
 box:w.heap[bs]?=J (.cells #[v] 155 (0,0))
 val:(∃g o cap,v=.slice (J ⟨g,o,U⟩) (I shs) cap/\I shs<=cap/\cap<=maxLen/\g<xz (xj w)/\∀(i:Nat) (x:Int×Int),shs[i]?=J x->w.cell? ⟨g,o+i*2,U⟩=J (.int .i64 x.1)/\w.cell? ⟨g,o+i*2+1,U⟩=J (.int .i64 x.2))\/
  (∃a cap,v=.slice a 0 cap/\shs=[])
def Z4l(w:World)(shs:List<|Int×Int)(bt h:Nat)(v:Value)(x:I shs<=1000000)(d:Shps w shs h v)(f:w.heap[bt]?=J (.cells #[.int .i64<|I shs] 3 (0,0))):
  Calls xP 96 #[.pointer<|J ⟨bt,0,U⟩,.pointer<|J ⟨h,0,U⟩] w λe p=>e=.panicked (Vu 3)/\Below (xz<|xj w) w p:=by
 have k:w.cell? ⟨bt,0,U⟩=J (.int .i64<|I shs):=by rw[Zhv _ _ _ _ _ _ f];rfl
 have n:=Y7 f;have j:=Y7 d.box;have q:w.cell? ⟨h,0,U⟩=J v:=by rw[Zhv _ _ _ _ _ _ d.box];rfl
 obtain⟨g,o,cap,rfl,r,t,u,l⟩|⟨a,cap,rfl,rfl⟩:=d.val
 .clear l d f;go_enter Kn,Try.ntmps96;go_wp2;exact⟨rfl,rfl,(ZhH _ _).alloc (Zhm _) _⟩
 .clear d f;simp only[Ziu]at k;go_enter Kn,Try.ntmps96;go_wp2;exact⟨rfl,rfl,(ZhH _ _).alloc (Zhm _) _⟩
def Z4k(w:World)(shs:List<|Int×Int)(bt j t:Nat)(v:Value)(x:Int×Int)(K:I shs<=1000000)(f:Shps w shs j v)(k:w.heap[bt]?=J (.cells #[.int .i64 t] 3 (0,0)))(hx:shs[t]?=J x)(r:YC x.1 x.2=xw):
  Calls xP 96 #[.pointer<|J ⟨bt,0,U⟩,.pointer<|J ⟨j,0,U⟩] w λe A=>e=.panicked (Vu 3)/\Below (xz<|xj w) w A:=by
 have B:w.cell? ⟨bt,0,U⟩=J (.int .i64 t):=by rw[Zhv _ _ _ _ _ _ k];rfl
 have u:=Y7 k;have p:=Y7 f.box;have y:t<I shs:=(Zhj.1 hx).1;have z:¬t=I shs:=Z0;have q:(t:Int)<I shs:=Z0;have C:w.cell? ⟨j,0,U⟩=J v:=by rw[Zhv _ _ _ _ _ _ f.box];rfl
 obtain⟨g,o,cap,rfl,F,G,H,n⟩|⟨a,cap,rfl,rfl⟩:=f.val
 .obtain⟨D,d1⟩:=n t x hx;have l:=Ps x.1 x.2;rw[r]at l;clear n f k hx r;go_enter Kn,Try.ntmps96;go_wp2_with (go_at_call 38;refine(l _).mono ?_;rintro e w1 ⟨rfl,d⟩;have h:=Zhp d;clear d)
  exact⟨rfl,rfl,((ZhH _ w).alloc (Zhm _) _).trans<|h.out.mono Z1⟩
 grind
def Z4m(w:World)(shs:List<|Int×Int)(bt f t:Nat)(v:Value)(x:Int×Int)(hl:I shs<=1000000)(y:Shps w shs f v)(l:w.heap[bt]?=J (.cells #[.int .i64 t] 3 (0,0)))(hx:shs[t]?=J x)(L:YC x.1 x.2=xk)(q:f≠bt)
  (r:∀g o cap,v=.slice (J ⟨g,o,U⟩) (I shs) cap->g≠bt):
  Calls xP 96 #[.pointer<|J ⟨bt,0,U⟩,.pointer<|J ⟨f,0,U⟩] w λe M=>e=.returned (.agg #[.int .i64 x.1,.int .i64 x.2])/\w.grownBy M (J bt)/\M.heap[bt]?=J (.cells #[.int .i64 ((t+1:Nat):Int)] 3 (0,0)):=by
 have N:w.cell? ⟨bt,0,U⟩=J (.int .i64 t):=by rw[Zhv _ _ _ _ _ _ l];rfl
 have h:=Y7 l;have n:=Y7 y.box;have R:t<I shs:=(Zhj.1 hx).1;have u:¬t=I shs:=Z0;have K:(t:Int)<I shs:=Z0;have O:w.cell? ⟨f,0,U⟩=J v:=by rw[Zhv _ _ _ _ _ _ y.box];rfl
 have hf:=Yp (o:=0) l;have G:¬f=bt:=q;have H:¬bt=f:=λe=>q e.symm;obtain⟨g,o,cap,rfl,h1,h2,D,F⟩|⟨a,cap,rfl,rfl⟩:=y.val
 .obtain⟨P,d1⟩:=F t x hx;have hg:=r g o cap rfl;have C:=Ps x.1 x.2;rw[L]at C;have B:=Zhp l;clear F y l hx L r;go_enter Kn,Try.ntmps96
  go_wp2_with (go_at_call 38;refine(C _).mono ?_;rintro e w1 ⟨rfl,d⟩
               have z:=Zhp d;have s1:=d.size;have k0:w1.cell? ⟨bt,0,U⟩=J (.int .i64 t):=(d.cell (p:=⟨bt,0,U⟩) Zgn).trans<|(ZiQ _ _ _ h).trans N;have k1:w1.frozen? ⟨bt,0,U⟩=xw:=Yp<|(d.block bt Zgn).trans<|(Zhz _ _ _ h).trans B.out;have k2:w1.cell? ⟨f,0,U⟩=J (.slice (J ⟨g,o,U⟩) (I shs) cap):=(d.cell (p:=⟨f,0,U⟩) Zgn).trans<|(ZiQ _ _ _ n).trans O;have k3:w1.cell? ⟨g,o+t*2,U⟩=J (.int .i64 x.1):=(d.cell (p:=⟨g,o+t*2,U⟩) Zgn).trans<|(ZiQ _ _ _ D).trans P;have k4:w1.cell? ⟨g,o+t*2+1,U⟩=J (.int .i64 x.2):=(d.cell (p:=⟨g,o+t*2+1,U⟩) Zgn).trans<|(ZiQ _ _ _ D).trans d1;have r0:w1.heap[xz<|xj w]?=J (.cells #[.int .i64 0,.int .i64 0] 39 (0,0)):=(d.block _ Z1).trans<|ZhT w _;have X:w1.cell? ⟨xz<|xj w,0,U⟩=J (.int .i64 0):=by rw[Zhv _ _ _ _ _ _ r0];rfl
               have Y:w1.cell? ⟨xz<|xj w,1,U⟩=J (.int .i64 0):=by rw[Zhv _ _ _ _ _ _ r0];rfl
               have y0:=Yp (o:=0) r0;have y1:=Yp (o:=1) r0;have T:¬xz (xj w)=bt:=Z0;have W:¬bt=xz (xj w):=Z0;have Z:=Zhp r0;clear d r0)
  have j:Below (xz<|xj w) w w1:=((ZhH _ w).alloc (Zhm _)<|.cells #[.int .i64 0,.int .i64 0] 39).trans<|z.out.mono Z1;have S:w1.heap[bt]?=J (.cells #[.int .i64 t] 3 (0,0)):=(j.block bt h).trans B.out;refine Zi8 (v:=.agg #[.int .i64 x.1,.int .i64 x.2]) ?_ rfl ⟨rfl,⟨j.os,j.tape,j.output,?_,λk Q u=> ?_⟩,?_⟩
  .simp[results,Try.results96,go_sem,X,Y,T,W]
  simp[World.setCell];exact j.size;have A:k≠bt:=λe=>u (by rw[e]);rw[ZhD _ _ _ _ Zgl,ZhD _ _ _ _ Zgl,ZhD _ _ _ _ A];exact j.block k Q;simp_all[ZhD,World.setCell,ZhW]
 grind
end Vm
namespace Vm
open Go Go.Proofs Go.RowKit
def Z2S(w:World)(f:FuncId)(vs:Array Value)(ws:List Int)(g o cap:Nat)(q:Words w ws g o cap)(O:g<xz (xj w))(a:Nat)(x:Int)(hx:ws[a]?=J x)(y:¬(adr x).2=0):
  Calls xP 101 #[.slice (J ⟨g,o,U⟩) (I ws) cap,.int .i64 a,.func (.func f) #[] vs] w λe Q=>e=R2 a x/\Below (xz<|xj w) w Q:=by
 have hl:=q.len;have hc:=q.le;have hm:=q.cap;have P:a<I ws:=(Zhj.1 hx).1;have C:(a:Int)<I ws:=Z0;have r:ZB x:=q.u64 x<|Zhq hx;have F:=q.Z a x hx;have B:∀W,Below (xz<|xj w) w W->W.cell? ⟨g,o+a,U⟩=J (.int .u64 x):=λW M=>(M.cell (p:=⟨g,o+a,U⟩) O).trans F;have n:R2 a x=if(ZQ x).2.2=0 then .returned (WQ ⟨a,(ZQ x).1,(ZQ x).2.1,xw,0⟩)else .panicked<|Vu 3:=rfl
 generalize R2 a x=E at*;have A:=Zhp B;have N:=λW=>C6 W f vs;have D:((adr x).2=0)=False:=Zk0 y;clear q hx B;by_cases u:(ZQ x).2.2=0
 .rw[Zht u]at n;have t:=Zhp n;clear n;go_enter RW,Try.ntmps101
  go_wp2_with (first
   |(go_at_call 56;refine(SZ r _).mono ?_;rintro e w1 ⟨rfl,h⟩;have d:=Zhp h;have G:=A.out w1<|((((ZhH _ w).alloc (Zhm _) _).alloc (by simp) _).trans<|h.mono (by simp;omega));clear h)
   | (go_at_call 61;refine(Ka r _).mono ?_;rintro e w2 ⟨rfl,j⟩;have k:=Zhp j
      have L:=d.out.block;have r0:w2.heap[xz<|xj w]?=J (.cells #[.int .i64 0,.int .i64 0,.int .i64 0,.bool xw,.int .u64 0] 119 (0,0)):=(j.block _ ZgU).trans<|(d.out.block _ Zgn).trans<|(Zhz _ _ _ Z1).trans<|ZhT w _;have z:w2.heap[xz (xj w)+1]?=J (.cells #[.int .i64 a,.int .i64 0,.int .i64 0,.bool xw,.int .u64 0] 119 (0,0)):=(j.block _ ZgU).trans<|(d.out.block _ Z1).trans Zgr;obtain⟨⟨R,S,T,X,Y⟩,y0,y1,y2,y3,y4⟩:=jm r0<|.cells #[.int .i64 (ZQ x).1,.int .i64 (ZQ x).2.1] 39;obtain⟨⟨p0,p1,p2,p3,p4⟩,q0,q1,q2,q3,q4⟩:=jm z<|.cells #[.int .i64 (ZQ x).1,.int .i64 (ZQ x).2.1] 39;have Z:=Zhp<|And.intro r0 z;clear j L r0 z))
  refine Zi8 (v:=WQ ⟨a,(ZQ x).1,(ZQ x).2.1,xw,0⟩) ?_ rfl ⟨t.out.symm,?_⟩
  .simp[results,Try.results101,go_sem,WQ,R,S,T,X,Y]
  have l:=(((ZhH _ w).alloc (Zhm _)<|.cells #[.int .i64 0,.int .i64 0,.int .i64 0,.bool xw,.int .u64 0] 119).alloc Z1<|.cells #[.int .i64 a,.int .i64 0,.int .i64 0,.bool xw,.int .u64 0] 119).trans<|d.out.mono Zgn;have K:=(l.trans<|k.out.mono (by have:=l.size;omega)).alloc (by have:=l.size;have:=k.out.size;omega)<|.cells #[.int .i64 (ZQ x).1,.int .i64 (ZQ x).2.1] 39;exact((((((K.setCell (p:=⟨xz (xj w)+1,1,U⟩) Z1 _).setCell (p:=⟨xz (xj w)+1,2,U⟩) Z1 _).setCell (p:=⟨xz<|xj w,0,U⟩) (Zhm _) _).setCell (p:=⟨xz<|xj w,1,U⟩) (Zhm _) _).setCell (p:=⟨xz<|xj w,2,U⟩) (Zhm _) _).setCell (p:=⟨xz<|xj w,3,U⟩) (Zhm _) _).setCell (p:=⟨xz<|xj w,4,U⟩) (Zhm _) _
 .rw[Zhs u]at n;have t:=Zhp n;clear n;have H:((ZQ x).2.2=0)=False:=Zk0 u;go_enter RW,Try.ntmps101
  go_wp2_with (first
   |(go_at_call 56;refine(SZ r _).mono ?_;rintro e w1 ⟨rfl,h⟩;have d:=Zhp h;have G:=A.out w1<|((((ZhH _ w).alloc (Zhm _) _).alloc (by simp) _).trans<|h.mono (by simp;omega));clear h)
   |(go_at_call 61;refine(Ka r _).mono ?_;rintro e w2 ⟨rfl,j⟩;have k:=Zhp j;clear j))
  refine⟨rfl,t.out.symm,?_⟩;have l:=(((ZhH _ w).alloc (Zhm _)<|.cells #[.int .i64 0,.int .i64 0,.int .i64 0,.bool xw,.int .u64 0] 119).alloc Z1<|.cells #[.int .i64 a,.int .i64 0,.int .i64 0,.bool xw,.int .u64 0] 119).trans<|d.out.mono Zgn;exact(l.trans<|k.out.mono (by have:=l.size;omega)).alloc (by have:=l.size;have:=k.out.size;omega) _
def G2(w:World)(vs:Array Value)(ws:List Int)(g o cap:Nat)(h:Words w ws g o cap)(G:g<xz (xj w))(a:Nat)(x:Int)(hx:ws[a]?=J x)(A:(adr x).2=0)
  (d:∀W,Below (xz<|xj w) w W->Calls xP 96 vs W λe W'=>e=.panicked (Vu 3)/\Below (xz<|xj W) W W'):
  Calls xP 101 #[.slice (J ⟨g,o,U⟩) (I ws) cap,.int .i64 a,.func (.func 96) #[] vs] w λe C=>e=.panicked (Vu 3)/\Below (xz<|xj w) w C:=by
 have H:=h.len;have F:=h.le;have K:=h.cap;have z:a<I ws:=(Zhj.1 hx).1;have t:(a:Int)<I ws:=Z0;have B:ZB x:=h.u64 x<|Zhq hx;have D:=h.Z a x hx;have y:=λW=>C6 W 96 vs;have u:=Zhp d;clear h hx d;go_enter RW,Try.ntmps101
 go_wp2_with (first
  | (go_at_call 56;refine(SZ B _).mono ?_;rintro e w1 ⟨rfl,f⟩
     have r:Below (xz<|xj w) w w1:=((((ZhH _ w).alloc (Zhm _) _).alloc Z1 _).trans<|f.mono Zgn);have k:w1.heap[xz (xj w)+1]?=J (.cells #[.int .i64 a,.int .i64 0,.int .i64 0,.bool xw,.int .u64 0] 119 (0,0)):=(f.block _ Z1).trans Zgr;have p3:w1.cell? ⟨xz (xj w)+1,3,U⟩=J (.bool xw):=by rw[Zhv _ _ _ _ _ _ k];rfl
     have p4:w1.cell? ⟨xz (xj w)+1,4,U⟩=J (.int .u64 0):=by rw[Zhv _ _ _ _ _ _ k];rfl
     have L:=Yp (o:=3) k;have M:=Yp (o:=4) k;have n:=Zhp r;clear f r k)
  |(go_at_call 96;refine(u.out _ ?_).mono ?_;rotate_left;rintro e w2 ⟨rfl,j⟩;have l:=Zhp j;clear j))
 case refine_1=>exact(n.out.setCell (p:=⟨xz (xj w)+1,3,U⟩) Z1 _).setCell (p:=⟨xz (xj w)+1,4,U⟩) Z1 _
 case refine_2=>
  have q:=(n.out.setCell (p:=⟨xz (xj w)+1,3,U⟩) Z1<|.bool xk).setCell (p:=⟨xz (xj w)+1,4,U⟩) Z1<|.int .u64 (adr x).1;exact⟨rfl,rfl,q.trans<|l.out.mono q.size⟩
theorem Z4o{w W:World}{r}(h:w.grownBy W r){p}(f:xz (xj w)<=p.block)u:w.grownBy (W.setCell p u) r:=
 ⟨h.os,h.tape,h.output,by simpa[World.setCell]using h.size,λk d a=>(ZhD _ _ _ _ Z0).trans<|h.block k d a⟩
def Z2Q(w:World)(vs:Array Value)(ws:List Int)(g o cap:Nat)(r:Words w ws g o cap)(hg:g<xz (xj w))(a:Nat)(x:Int)(hx:ws[a]?=J x)(Q:(adr x).2=0)
  (bt:Nat) (O:Obj) (s p:Int) (L:bt<xz (xj w))
  (f:∀W,Below (xz<|xj w) w W->Calls xP 96 vs W λe W'=>e=.returned (.agg #[.int .i64 s,.int .i64 p])/\W.grownBy W' (J bt)/\W'.heap[bt]?=J O):
  Calls xP 101 #[.slice (J ⟨g,o,U⟩) (I ws) cap,.int .i64 a,.func (.func 96) #[] vs] w λe H=>e=.returned (WQ ⟨a,s,p,xk,(adr x).1⟩)/\w.grownBy H (J bt)/\H.heap[bt]?=J O:=by
 have hl:=r.len;have hc:=r.le;have hm:=r.cap;have P:a<I ws:=(Zhj.1 hx).1;have G:(a:Int)<I ws:=Z0;have R:ZB x:=r.u64 x<|Zhq hx;have c0:=r.Z a x hx;have M:=λW=>C6 W 96 vs;have K:=Zhp f;clear r hx f;go_enter RW,Try.ntmps101
 go_wp2_with (first
  | (go_at_call 56;refine(SZ R _).mono ?_;rintro e w1 ⟨rfl,j⟩
     have D:Below (xz<|xj w) w w1:=((((ZhH _ w).alloc (Zhm _) _).alloc Z1 _).trans<|j.mono Zgn);have t:w1.heap[xz (xj w)+1]?=J (.cells #[.int .i64 a,.int .i64 0,.int .i64 0,.bool xw,.int .u64 0] 119 (0,0)):=(j.block _ Z1).trans Zgr;have p3:w1.cell? ⟨xz (xj w)+1,3,U⟩=J (.bool xw):=by rw[Zhv _ _ _ _ _ _ t];rfl
     have p4:w1.cell? ⟨xz (xj w)+1,4,U⟩=J (.int .u64 0):=by rw[Zhv _ _ _ _ _ _ t];rfl
     have q3:=Yp (o:=3) t;have q4:=Yp (o:=4) t;have r0:w1.heap[xz<|xj w]?=J (.cells #[.int .i64 0,.int .i64 0,.int .i64 0,.bool xw,.int .u64 0] 119 (0,0)):=(j.block _ Zgn).trans<|(Zhz _ _ _ Z1).trans<|ZhT w _;have z:=Zhp<|And.intro r0 t;have C:=Zhp D;clear j D r0 t)
  | (go_at_call 96;refine(K.out _ ?_).mono ?_;rotate_left;rintro e w2 ⟨rfl,l,u⟩
     have d:=Zhp l;have A:=Zhp u;have n:w2.heap[xz (xj w)+1]?=J (.cells #[.int .i64 a,.int .i64 0,.int .i64 0,.bool xk,.int .u64 (adr x).1] 119 (0,0)):=(l.block _ (by simp[World.setCell];exact Y7 z.out.2) Zgn).trans (by simp[World.setCell,ZhW,z.out.2]);have h:w2.heap[xz<|xj w]?=J (.cells #[.int .i64 0,.int .i64 0,.int .i64 0,.bool xw,.int .u64 0] 119 (0,0)):=(l.block _ (by simp[World.setCell];exact Y7 z.out.1) Zgn).trans (by simp[World.setCell,ZhW,z.out.1]);have s0:w2.cell? ⟨xz (xj w)+1,0,U⟩=J (.int .i64 a):=ZgL;have s1:w2.cell? ⟨xz (xj w)+1,1,U⟩=J (.int .i64 0):=ZgL;have s2:w2.cell? ⟨xz (xj w)+1,2,U⟩=J (.int .i64 0):=ZgL;have s3:w2.cell? ⟨xz (xj w)+1,3,U⟩=J (.bool xk):=ZgL;have s4:w2.cell? ⟨xz (xj w)+1,4,U⟩=J (.int .u64 (adr x).1):=ZgL;have S:w2.cell? ⟨xz<|xj w,0,U⟩=J (.int .i64 0):=ZgK;have T:w2.cell? ⟨xz<|xj w,1,U⟩=J (.int .i64 0):=ZgK;have X:w2.cell? ⟨xz<|xj w,2,U⟩=J (.int .i64 0):=ZgK;have Y:w2.cell? ⟨xz<|xj w,3,U⟩=J (.bool xw):=ZgK;have Z:w2.cell? ⟨xz<|xj w,4,U⟩=J (.int .u64 0):=ZgK;have u1:=Yp (o:=1) n;have u2:=Yp (o:=2) n;have v0:=Yp (o:=0) h;have v1:=Yp (o:=1) h;have v2:=Yp (o:=2) h;have v3:=Yp (o:=3) h;have v4:=Yp (o:=4) h;clear l u h n))
 case refine_1=>exact(C.out.setCell (p:=⟨xz (xj w)+1,3,U⟩) Z1 _).setCell (p:=⟨xz (xj w)+1,4,U⟩) Z1 _
 next=>
  have q:=(C.out.setCell (p:=⟨xz (xj w)+1,3,U⟩) Z1<|.bool xk).setCell (p:=⟨xz (xj w)+1,4,U⟩) Z1<|.int .u64 (adr x).1;have N:w.grownBy w2<|J bt:=⟨d.out.os.trans q.os,d.out.tape.trans q.tape,d.out.output.trans q.output,ZhU q.size d.out.size,λk F B=>(d.out.block k (Zhr F q.size) B).trans<|q.block k F⟩;have k1:bt≠xz (xj w)+1:=Z0;have y:bt≠xz (xj w):=Z0;clear q;refine Zi8 (v:=WQ ⟨a,s,p,xk,(adr x).1⟩) ?_ rfl ⟨rfl,?_,?_⟩
  .simp[results,Try.results101,go_sem,WQ,S,T,X,Y,Z]
  grind [Z4o];rw[ZhD _ _ _ _ y,ZhD _ _ _ _ y,ZhD _ _ _ _ y,ZhD _ _ _ _ y,ZhD _ _ _ _ y,ZhD _ _ _ _ k1,ZhD _ _ _ _ k1];exact A.out
end Vm
namespace Vm
open Go Go.Proofs Go.RowKit Go.Shelf
def UQ(W:World)(bl:Nat):Option Nat:=(W.cell? ⟨bl,0,U⟩).bind Value.ownBlock
structure KpW (bl base:Nat) (A B:World):Prop where
 size:xz (xj A)<=xz (xj B)
 same:∀k o,A.heap[k]?=J o->o.isCells=xk->k≠bl->(k<base\/UQ A bl≠J k)->B.heap[k]?=J o
 row:∀k,k<xz (xj A)->UQ B bl=J k->UQ A bl=J k
theorem KpW.trans{bl base A B C}(h:KpW bl base A B)(k:KpW bl base B C):KpW bl base A C:=
 ⟨ZhU h.size k.size,λi o a g j d=>k.same i o (h.same i o a g j d) g j (d.imp id λf e=>f<|h.row i Zgl e),λi a d=>h.row i a<|k.row i (Zhr a h.size) d⟩
theorem KpW.put{bl base W l o}d(j:W.heap[l]?=J o)(n:o.isCells=xw)(g:bl≠l):KpW bl base W<|W.putObj l d:=by
 have a:(W.putObj l d).cell? ⟨bl,0,U⟩=W.cell? ⟨bl,0,U⟩:=Zie<|ZhZ Z0;refine⟨Z1,λk q h f _ _=> ?_,λk _ p=> ?_⟩;grind [World.putObj_heap_other];simp_all[UQ]
def zu(ws:List Int)(g o cap:Nat)(gv:Value)(shs:List<|Int×Int)(old:Bool)(bt:Option Nat)(K:Nat->World->Prop):Prop:=
 ∀(W:World) (a t:Nat) (x:Int),Words W ws g o cap->g<xz (xj W)->K t W->ws[a]?=J x->
  Calls xP 101 #[.slice (J ⟨g,o,U⟩) (I ws) cap,.int .i64 a,gv] W λe W'=>W.grownBy W' bt/\match Wo shs old a t x with
   |some (d,f)=>e=.returned (WQ d)/\K f W'
   |none=>e=.panicked (Vu 3)
def ye(ws:List Int)(shs:List<|Int×Int)(old:Bool)(K:Nat->World->Prop)(xs:List Ob)(W:World):Prop:=
 ∃t,K t W/\ZN ws shs old=(if t<(I shs) then([],3)else(xs,0))
def Z3E(ws:List Int)(shs:List<|Int×Int)(old:Bool)(chain:List PanicEntry)(pre:List Ob)(W:World):Prop:=
 ∃e,(e=2\/e=3)/\chain=Vu e/\ZN ws shs old=([],e)
structure Stat6 (ws:List Int) (g o cap:Nat) (sv:Value) (bw bg base bl:Nat) (bt:Option Nat) (gv:Value) (W:World):Prop where
 words:Words W ws g o cap
 vk:sv=.slice (J ⟨g,o,U⟩) (I ws) cap\/(ws=[]/\∃a c,sv=.slice a 0 c)
 tg:W.heap[bw]?=J (.cells #[sv] 28 (0,0))
 vb:W.heap[bg]?=J (.cells #[gv] 167 (0,0))
 gb:ws≠[]->∃ob,W.heap[g]?=J ob/\ob.isCells=xk
 lt:g<base/\bw<base/\bg<base/\base<=xz (xj W)
 ne:g≠bl/\bw≠bl/\bg≠bl
 nt:J g≠bt/\J bw≠bt/\J bg≠bt
section
variable {ws:List Int}{g o cap bw bg base bl:Nat}{bt:Option Nat}{sv gv:Value}{W W':World}
theorem Stat6.of(h:Stat6 ws g o cap sv bw bg base bl bt gv W)(n:xz (xj W)<=xz (xj W'))(d:∀k a,W.heap[k]?=J a->a.isCells=xk->k<base->k≠bl->J k≠bt->W'.heap[k]?=J a):Stat6 ws g o cap sv bw bg base bl bt gv W':=by
 refine⟨⟨λi x p=> ?_,h.words.le,h.words.cap,h.words.len,h.words.u64⟩,h.vk,d _ _ h.tg rfl h.lt.2.1 h.ne.2.1 h.nt.2.1,d _ _ h.vb rfl h.lt.2.2.1 h.ne.2.2 h.nt.2.2,λj=> ?_,⟨h.lt.1,h.lt.2.1,h.lt.2.2.1,ZhU h.lt.2.2.2 n⟩,h.ne,h.nt⟩;have j:ws≠[]:=Zgl;let⟨a,l,f⟩:=h.gb j;have q:=d _ _ l f h.lt.1 h.ne.1 h.nt.1;rw[<-h.words.Z i x p];grind [World.cell?_of_block];let⟨a,l,f⟩:=h.gb j;exact⟨a,d _ _ l f h.lt.1 h.ne.1 h.nt.1,f⟩
def Stat6.grown(h:Stat6 ws g o cap sv bw bg base bl bt gv W)(a:W.grownBy W' bt):=
 h.of a.size λk j d _ _ _ f=>(a.block k Zgl f).trans d
def Stat6.kp(h:Stat6 ws g o cap sv bw bg base bl bt gv W)(f:KpW bl base W W'):=
 h.of f.size λk n a j l d _=>f.same k n a j d Z0
end
def Tc{W W'}(a:Below (xz<|xj W) W W')r:W.grownBy W' r:=⟨a.os,a.tape,a.output,a.size,λk d _=>a.block k d⟩
def Z2O{ws g o cap}:zu ws g o cap .nilFunc [] xw U (λt _=>t=0):=by
 intro W a t x h f k j;refine(Z2R W ws g o cap h f a x j).mono ?_;rintro e W' ⟨rfl,d⟩;refine⟨Tc d U,?_⟩;unfold Wo R2;grind
def Shps.grown{W W' shs d v r}(h:Shps W shs d v)(j:W.grownBy W' r)(f:J d≠r)(p:shs≠[]->∀g o cap,v=.slice (J ⟨g,o,U⟩) (I shs) cap->J g≠r):Shps W' shs d v:=by
 refine⟨(j.block _ (Y7 h.box) f).trans h.box,?_⟩;obtain⟨g,o,cap,rfl,l,n,k,q⟩|⟨a,cap,rfl,rfl⟩:=h.val;refine .inl ⟨g,o,cap,rfl,l,n,Zhr k j.size,λi x u=> ?_⟩;have t:=j.block g k Zgl;grind [World.cell?_of_block];simp
def KOld(shs:List<|Int×Int)(bt a:Nat)(v:Value)(t:Nat)(W:World):Prop:=W.heap[bt]?=J (.cells #[.int .i64 t] 3 (0,0))/\Shps W shs a v/\t<=I shs
def Z2P{ws:List Int}{g o cap:Nat}{shs:List (Int×Int)}{bt k:Nat}{v:Value}(B:I shs<=1000000)(n:k≠bt)(q:shs≠[]->∀g o cap,v=.slice (J ⟨g,o,U⟩) (I shs) cap->g≠bt):
  zu ws g o cap (.func (.func 96) #[] #[.pointer<|J ⟨bt,0,U⟩,.pointer<|J ⟨k,0,U⟩]) shs xk (J bt) (KOld shs bt k v):=by
 intro W a t x y w F z;obtain⟨A,D,M⟩:=F;have p:J k≠J bt:=λe=>n Zgl;have r:shs≠[]->∀g o cap,v=.slice (J ⟨g,o,U⟩) (I shs) cap->J g≠J bt:=λL g o cap e O=>q L g o cap e Zgl;have h:∀W',Below (xz<|xj W) W W'->Shps W' shs k v:=λW' d=>D.grown (Tc d U) Z1 (λ_ _ _ _ _=>Z1);have f:∀W',Below (xz<|xj W) W W'->W'.heap[bt]?=J (.cells #[.int .i64 t] 3 (0,0)):=λW' d=>(d.block _<|Y7 A).trans A;by_cases l:(adr x).2=0;unfold Wo;rw[Zht ⟨rfl,l⟩];cases j:shs[t]? with
 |none=>
  have:t=I shs:=by have:=Zjz.1 j;omega
  subst this;refine(G2 W _ ws g o cap y w a x z l λW' d=>Z4l W' shs bt k v B (h W' d)<|f W' d).mono ?_;rintro e W' ⟨rfl,d⟩;exact⟨Tc d _,rfl⟩
 |some s=>
  simp only;cases u:YC s.1 s.2;refine(G2 W _ ws g o cap y w a x z l λW' d=>Z4k W' shs bt k t v s B (h W' d) (f W' d) j u).mono ?_;rintro e W' ⟨rfl,d⟩;exact⟨Tc d _,Z1⟩;refine(Z2Q W _ ws g o cap y w a x z l bt _ s.1 s.2 (Y7 A) λW' d=>Z4m W' shs bt k t v s B (h W' d) (f W' d) j u n<|q (λe=>Zgm)).mono ?_;rintro e W' ⟨rfl,C,G⟩;have K:=(Zhj.1 j).1;refine⟨C,?_⟩;simp only[Zig];exact⟨trivial,G,D.grown C p r,Z0⟩
 refine(Z2S W _ _ ws g o cap y w a x z l).mono ?_;rintro e W' ⟨rfl,d⟩;refine⟨Tc d _,?_⟩;unfold Wo R2;rw[Zhs (λH=>l H.2)];by_cases N:(ZQ x).2.2=0;simp only[N,Zig];exact⟨trivial,f W' d,h W' d,M⟩;simp_all
end Vm
end
section
namespace Vm
open Go Go.Proofs Go.RowKit Go.Shelf
def EU(a:Nat)(W:World):Prop:=∀k,UQ W a=J k->k<xz (xj W)
def Sf{A B C:World}{r}(h:A.grownBy B r)(k:B.grownBy C r):A.grownBy C r:=
 ⟨k.os.trans h.os,k.tape.trans h.tape,k.output.trans h.output,ZhU h.size k.size,λi a d=>(k.block i (Zhr a h.size) d).trans<|h.block i a d⟩
def Zbs ws shs old{a t g x d}(hx:ws[a]?=J x)(h:Wo shs old a t x=J (d,g)){f pre}:
  Xr ws shs old (f+1) a t pre=if(I ws:Int)<a+1+d.size then([],2)else if XQ ((ws.drop<|a+1).take d.size.toNat) d.gone d.M 0=xw then([],3)else Xr ws shs old f (a+1+d.size.toNat) g (pre++[d]):=by
 simp_all[Xr]
def Z3B(n:Nat){w:World}{ws:List Int}{g o cap bw bg base z:Nat}{bt:Option Nat}{sv gv:Value}{shs:List (Int×Int)}{old:Bool}{K:Nat->World->Prop}(e0:Stat6 ws g o cap sv bw bg base z bt gv w)
  (f2:z<base) (b2:J z≠bt) (a9:zu ws g o cap gv shs old bt K) (d7:K 0 w) (a6:∀t W W',K t W->Below (xz<|xj W) W W'->K t W') (d8:∀t W W',K t W->KpW z base W W'->K t W'):
  EV Fence.wide n xP 100 #[.pointer<|J ⟨bw,0,U⟩,.pointer<|J ⟨bg,0,U⟩] (λd:Ob=> #[WQ d]) (KpW z base) (ye ws shs old K) (Z3E ws shs old) (I ws) bt (EU z) w:=by
 intro l h W hW d6 hJ hY h0;refine callsIn_of_wp EX rfl trivial ?_ rfl;simp only[Try.ntmps100,ZiP,ZiD,Ziu,Nat.reduceAdd,Nat.reduceSub,Zja,Zjb,ZjF,Zjh,Zic,ZiC];have c8:=Zhp<|e0.grown<|Tc hW bt;have b9:=Zhp<|a6 0 w W d7 hW;have b7:=Zhp h0;clear h0;gi_wp2
 gi_loopw [4] (λp wr=>∃(a t f:Nat) (pre:List Ob),p=.int .i64 a/\Hid (h pre wr/\K t wr/\Stat6 ws g o cap sv bw bg base z bt gv wr/\I ws<f+a/\0<f/\a<=I ws/\I pre<=a/\ZN ws shs old=Xr ws shs old f a t pre))
  (λp _=>I ws- (intOf p).toNat)
 case atStart=>exact⟨0,0,I ws+1,[],rfl,Zhp ⟨b7.out,b9.out,c8.out,Z0,Z0,Z0,Z1,rfl⟩⟩
 case round=>
  obtain⟨a,t,f,pre,rfl,j⟩:=hrel;have k:=j.out.2.2.1;have a1:=k.vk;have c1:wr.cell? ⟨bw,0,U⟩=J sv:=by rw[Zhv _ _ _ _ _ _ k.tg];rfl
  have c2:wr.cell? ⟨bg,0,U⟩=J gv:=by rw[Zhv _ _ _ _ _ _ k.vb];rfl
  have e3:=k.words.len;clear k;by_cases b1:a<I ws
  .obtain⟨x,hx⟩:∃x,ws[a]?=J x:=⟨_,Zhi b1⟩;obtain rfl:sv=.slice (J ⟨g,o,U⟩) (I ws) cap:=a1.resolve_right (λh=>Zgm);clear a1;have e4:((a:Int)<I ws)=True:=ZjW Z0;have hb:=a9 wr a t x j.out.2.2.1.words (by have:=j.out.2.2.1.lt;omega) j.out.2.1 hx;cases ho:Wo shs old a t x with
   |none=>
    rw[ho]at hb;have HX:=Zhp hb;clear hb;gi_wp2
    refine⟨trivial,λh=>ZgA,(Zjs.2 HX.out).mono ?_⟩;rintro e w1 ⟨y,rfl⟩;have H:=Zhp y;clear y;gi_wp2
    refine⟨rfl,.inr ⟨_,pre,rfl,⟨3,.inr rfl,rfl,?_⟩,hJ _ _ _ _ j.out.1 H.out<|λr e=>e.symm⟩⟩;obtain⟨_,_,_,hf,N,_,_,L⟩:=j.out;cases f with
    |zero=>omega
    |succ f=>
     simp_all[Xr]
   |some q=>
    obtain⟨d,t'⟩:=q;rw[ho]at hb;have HX:=Zhp hb;clear hb;obtain⟨a0,B⟩:=qw ho;gi_wp2
    refine⟨trivial,λh=>ZgA,(Zjs.2 HX.out).mono ?_⟩;rintro e w1 ⟨y,rfl,b0⟩;have H:=Zhp y;have c0:=Zhp b0;have M:=j.out.2.2.1.grown y;have e9:=Zhp M;have e1:∀O,(w1.alloc O).cell? ⟨bw,0,U⟩=J (.slice (J ⟨g,o,U⟩) (I ws) cap):=λO=>by
     rw[ZiQ _ _ _<|Y7 M.tg,Zhv _ _ _ _ _ _ M.tg];rfl
    have Z:wr.grownBy (w1.alloc<|.cells #[.int .i64 a,.int .i64 d.size,.int .i64 d.M,.bool d.gone,.int .u64 d.target] 119) bt:=Sf y<|ZiH _ _ _;have a8:=Zhp<|j.out.2.2.1.grown Z;have hh:=Z4w (w1.alloc<|.cells #[.int .i64 a,.int .i64 d.size,.int .i64 d.M,.bool d.gone,.int .u64 d.target] 119) ws g o cap a8.out.words (by have:=a8.out.lt;omega) d a B b1 a0;unfold WQ at hh;rw[B]at hh;have b5:=Zhp Z;have R:=Zhp hh;have G:∀f pre,Xr ws shs old (f+1) a t pre=_:=λf pre=>Zbs ws shs old hx ho (f:=f) (pre:=pre);have S:=Zhp G;clear y b0 M Z hh G hx;unfold WQ;gi_wp2
    refine⟨trivial,λh=>ZgA,(Zjs.2 R.out).mono ?_⟩;rintro e w2 ⟨rfl,C⟩;have A:wr.grownBy w2 bt:=Sf b5.out<|Tc C bt;have Q:=Zhp A;have b3:=Zhp C;unfold yG;by_cases T:(I ws:Int)<d.Z+1+d.size
    .rw[Zht T];rw[B]at T;clear C A;gi_wp2
     refine⟨rfl,.inr ⟨_,pre,rfl,⟨2,.inl rfl,rfl,?_⟩,hJ _ _ _ _ j.out.1 Q.out<|λr e=>e.symm⟩⟩;obtain⟨_,_,_,hf,N,_,_,L⟩:=j.out;obtain⟨f,rfl⟩:∃f',f=f'+1:=⟨f-1,Z0⟩;rw[L,S.out,Zht T]
    .rw[Zhs T];by_cases X:XQ ((ws.drop<|d.Z.toNat+1).take d.size.toNat) d.gone d.M 0=xw
     .rw[Zht X];rw[B]at T X;clear C A;gi_wp2
      refine⟨rfl,.inr ⟨_,pre,rfl,⟨3,.inr rfl,rfl,?_⟩,hJ _ _ _ _ j.out.1 Q.out<|λr e=>e.symm⟩⟩;obtain⟨_,_,_,hf,N,_,_,L⟩:=j.out;obtain⟨f,rfl⟩:∃f',f=f'+1:=⟨f-1,Z0⟩;rw[L,S.out,Zhs Z0];simp_all
     .rw[Zhs X];rw[B]at T X;simp only[ZhA]at X;have b6:=Zhp<|And.intro T X;have Y:=hJ _ _ _ _ j.out.1 A (λr e=>e.symm);have e7:=Zhp Y;have d5:=Zhp<|j.out.2.2.1.grown A;have u:w2.heap[xz<|xj w1]?=J (.cells #[.int .i64 a,.int .i64 d.size,.int .i64 d.M,.bool d.gone,.int .u64 d.target] 119 (0,0)):=(C.block _ Z1).trans<|ZhT w1 _;have b4:=Zhp u;obtain⟨fn,e6,assign,e2,hy,L⟩:=hY pre d w2 Y (by have:=j.out.2.2.2.2.2.2.1;omega);unfold WQ at hy;rw[B]at hy;have d0:w2.cell? ⟨xz<|xj w1,0,U⟩=J (.int .i64 a):=ZgM;have d1:w2.cell? ⟨xz<|xj w1,1,U⟩=J (.int .i64 d.size):=ZgM;have d2:w2.cell? ⟨xz<|xj w1,2,U⟩=J (.int .i64 d.M):=ZgM;have d3:w2.cell? ⟨xz<|xj w1,3,U⟩=J (.bool d.gone):=ZgM;have d4:w2.cell? ⟨xz<|xj w1,4,U⟩=J (.int .u64 d.target):=ZgM;clear C A Y u;gi_wp2
      refine⟨λh=>ZgA,L.mono ?_⟩;rintro e W3 ⟨rfl,a3,D⟩;have b8:=Zhp a3;have e8:=Zhp D;have F:UQ w2 z≠J (xz<|xj w1):=by
       intro e;have d9:z<xz (xj wr):=by have:=j.out.2.2.1.lt.2.2.2;omega
       have:UQ w2 z=UQ wr z:=by
        unfold UQ;rw[Zie (a:=⟨z,0,U⟩)<|Q.out.block z d9 b2]
       rw[this]at e;have:=d6 _ _ j.out.1 _ e;have:=H.out.size;omega
      have P:=D.same _ _ b4.out rfl (by have:=j.out.2.2.1.lt.2.2.2;have:=H.out.size;omega)<|.inr F;have f1:W3.cell? ⟨xz<|xj w1,1,U⟩=J (.int .i64 d.size):=by rw[Zhv _ _ _ _ _ _ P];rfl
      have a7:=d5.out.kp D;have a4:K t' w2:=a6 _ _ _ c0.out<|((ZhH _ _).alloc (Zhm _) _).trans<|b3.out.mono Z1;have a5:=d8 _ _ _ a4 D;have a2:=Zhp<|And.intro a7 a5;obtain⟨m,hm⟩:∃m:Nat,d.size=m:=⟨d.size.toNat,by have:=(Yy.1 a0).1;omega⟩;rw[hm]at f1;have f4:(m:Int)<=255:=by have:=(Yy.1 a0);omega
      have q1:IntKind.i64.wrap (1+(m:Int))=((1+m:Nat):Int):=Zgx;have q2:IntKind.i64.wrap ((a:Int)+((1+m:Nat):Int))=((a+(1+m):Nat):Int):=Zgx;clear a3 D P a7 a4 a5 F;clear X;gi_wp2
      obtain⟨_,_,_,hf,N,f0,f5,L⟩:=j.out;obtain⟨f,rfl⟩:∃f',f=f'+1:=⟨f-1,Z0⟩;rw[S.out,Zhs Z0,Zhs b6.out.2]at L;have f3:a+1+m<=I ws:=Z0;refine⟨⟨a+(1+m),t',f,pre++[d],Z1,Zhp ⟨b8.out,a2.out.2,a2.out.1,Z0,Z0,Z0,Zgn,?_⟩⟩,by grind [intOf]⟩;grind
  .have e5:((a:Int)<I ws)=False:=Zk0 Z0
   have HE:Hid<|ye ws shs old K pre wr:=Zhp (by
    obtain⟨_,hK,_,hf,N,_,_,L⟩:=j.out;refine⟨t,hK,?_⟩;cases f with
    |zero=>omega
    |succ f=>
     simp_all[Xr,Zib])
   obtain⟨sa,sc,rfl⟩:∃sa sc,sv=.slice sa (I ws) sc:=by
    grind
   clear a1;gi_wp2
   go_end0
   exact .inl ⟨_,pre,rfl,HE.out,j.out.1⟩
end Vm
namespace Vm
open Go Go.Proofs Go.RowKit Go.Shelf
def Z3C(w:World)(g d:Value)(k:∃a n c,g=.slice a n c)(h:d=.nilFunc\/∃f vs,d=.func (.func f) #[] vs):
  Calls xP 99 #[g,d] w λe l=>e=.returned (.func (.func 100) #[] #[.pointer<|J ⟨xz<|xj w,0,U⟩,.pointer<|J ⟨xz (xj w)+1,0,U⟩])/\
   l=(w.alloc<|.cells #[g] 28).alloc (.cells #[d] 167):=by
 have j:∀(fn:Go.Fn) (first cap:Array Value) (w:World),(Instr.makeFunc fn first cap).run xP w=.ok (.func fn first cap) w:=λ_ _ _ _=>rfl;obtain⟨a,n,c,rfl⟩:=k;obtain rfl|⟨f,vs,rfl⟩:=h
 .go_enter A4,Try.ntmps99;go_wp2;exact Zi8 (results_tmp rfl _ _ _) rfl ⟨rfl,rfl⟩
 .go_enter A4,Try.ntmps99;go_wp2;exact Zi8 (results_tmp rfl _ _ _) rfl ⟨rfl,rfl⟩
def Z6Q w:Sem.run xP (binOp .neq 20 .nilIface .nilIface) w=.ok (.bool xw) w:=Zhb
def Z6R w T v:Sem.run xP (binOp .neq 20 (.iface T v) .nilIface) w=.ok (.bool xk) w:=Zhb
def Zb4(w:World)(x:Int):Sem.run xP (Instr.typeAssert (.iface 166<|.agg #[.int .i64 x]) 20 166 xk) w=.ok (.tuple #[.agg #[.int .i64 x],.bool xk]) w:=Zhb
def Z3j(n:Nat)(p q:Addr)(w:World):
  CallsDIn Fence.wide n xP 98 #[.pointer<|J p,.pointer<|J q] .returning w λe f g=>e=.returned (.tuple #[])/\f=.returning/\g=w:=by
 have j:=Z6Q;refine callsDIn_of_wpSIn A3 rfl trivial λa h d=> ?_;simp only[Try.ntmps98,ZiP,ZiD,Ziu,Nat.reduceAdd,Nat.reduceSub,Zja,Zjb,ZjF,Zjh,Zic,ZiC];apply wpSIn_seq;apply wpSIn_region;simp[wpOpsSIn,go_sem,recoverD,d,Exit.thenS];refine wpSIn_of_wpIn rfl ?_;gi_wp2
 cases a;simp_all [bodyPostS,results,Try.results98]
def Z3k(n:Nat)(a d:Nat)(x:Int)(w:World)(z l:Value)(f:Boxed w a 104 z)(g:Boxed w d 34 l)(h:a≠d):
  CallsDIn Fence.wide n xP 98 #[.pointer<|J ⟨a,0,U⟩,.pointer<|J ⟨d,0,U⟩] (.panicking<|Vu x) w λe y j=>
   e=.returned (.tuple #[])/\y=.panicking [{v:=.iface 166<|.agg #[.int .i64 x],recovered:=xk}]/\
   Boxed j a 104 (.slice U 0 0)/\Boxed j d 34 (.int .i64 x)/\(xz (xj w)<=xz (xj j)/\∀k,k<xz (xj w)->k≠a->k≠d->j.heap[k]?=w.heap[k]?)/\j.os=w.os/\j.tape=w.tape/\j.output=w.output:=by
 have C:=Z6R;have D:=Zb4;have P:=(f.alloc<|.cells #[.int .i64 x] 166).cell;have p2:=(f.alloc<|.cells #[.int .i64 x] 166).frozen;have Q:=(g.alloc<|.cells #[.int .i64 x] 166).cell;have R:=(g.alloc<|.cells #[.int .i64 x] 166).frozen;have p3:=f.cell;have p4:=f.frozen;have S:=g.cell;have T:=g.frozen;have H:=f.lt;have K:=g.lt;have t:¬a=d:=h;have u:¬d=a:=λe=>h e.symm;have L:¬a=xz (xj w):=Z0;have M:¬xz (xj w)=a:=Z0;have N:¬d=xz (xj w):=Z0;have O:¬xz (xj w)=d:=Z0;have o:=Zhp<|And.intro f g;clear f g h;refine callsDIn_of_wpSIn A3 rfl trivial λB A r=> ?_;simp only[Try.ntmps98,ZiP,ZiD,Ziu,Nat.reduceAdd,Nat.reduceSub,Zja,Zjb,ZjF,Zjh,Zic,ZiC];apply wpSIn_seq;apply wpSIn_region;simp[wpOpsSIn,go_sem,recoverD,r,Vu,Exit.thenS];refine wpSIn_of_wpIn rfl ?_;gi_wp2
 gi_region
 all_goals gi_wp2
 obtain⟨f,g⟩:=o.out;have p:Boxed ((w.setCell ⟨a,0,U⟩<|.slice U 0 0).setCell ⟨d,0,U⟩<|.int .i64 x) a 104<|.slice U 0 0:=(ZhD _ ⟨d,0,U⟩ _ a t).trans<|f.set _;have q:Boxed ((w.setCell ⟨a,0,U⟩<|.slice U 0 0).setCell ⟨d,0,U⟩<|.int .i64 x) d 34<|.int .i64 x:=Boxed.set _ (show Boxed (w.setCell ⟨a,0,U⟩<|.slice U 0 0) d 34 l from(ZhD _ ⟨a,0,U⟩ _ d u).trans g);refine⟨rfl,_,rfl,_,by simp[results,Try.results98],rfl,rfl,p.alloc _,q.alloc _,⟨?_,λk F k1 G=> ?_⟩,rfl,rfl,rfl⟩;simp;show(World.alloc _ _).heap[k]?=_;grind [Below.heap_alloc,World.setCell,Below.heap_setCell]
end Vm
namespace Vm
open Go Go.Proofs Go.RowKit Go.Shelf
def TU(a:Ob):List Value:=[.int .i64 a.Z,.int .i64 a.size,.int .i64 a.M,.bool a.gone,.int .u64 a.target]
def V0(l:List Ob):List Value:=l.flatMap TU
def Z7b l x:V0 (l++[x])=V0 l++TU x:=by simp[V0]
structure WIv (w:World) (bt:Option Nat) (pre:List Ob) (W:World):Prop where
 row:∃v,Boxed W (xz<|xj w) 104 v/\W.ownsRow (xz (xj w)+4) 119 5 v (I pre) (V0 pre)
 e:Boxed W (xz (xj w)+1) 34<|.int .i64 0
 gr:w.grownBy W bt
 size:xz (xj w)+4<=xz (xj W)
def Td{w X Y:World}{bt row}(h:w.grownBy X bt)(k:X.grownBy Y row)(f:∀r,row=J r->J r=bt\/xz (xj w)<=r):w.grownBy Y bt:=
 ⟨k.os.trans h.os,k.tape.trans h.tape,k.output.trans h.output,ZhU h.size k.size,λi a d=>
  (k.block i (Zhr a h.size) Zgl).trans (h.block i a d)⟩
theorem jn{W b t v}(h:Boxed W b t v):UQ W b=v.ownBlock:=by
 unfold UQ;rw[h.cell];rfl
def WIv.tx{w bt pre W}(h:WIv w bt pre W):EU (xz<|xj w) W:=by
 let⟨v,f,d⟩:=h.row;intro k a;rw[jn f]at a;exact(d.lt k a).2
def WIv.own{w bt}(u:∀r,bt=J r->r<xz (xj w)):OwnP bt (xz (xj w)+4)<|WIv w bt:=by
 intro s X Y row h d p;have y:∀k,xz (xj w)<=k->k<xz (xj w)+4->J k≠row:=by
  intro k t A e;obtain j|⟨j,_⟩:=p k e.symm;grind;omega
 let⟨v,z,a⟩:=h.row;refine⟨⟨v,z.kept d Zgm,a.kept d ?_⟩,h.e.kept d Zgm,Td h.gr d λr e=>Zgl,ZhU h.size d.size⟩;cases l:v.ownBlock with
 |none=>simp
 |some b=>
  refine .inr λe=> ?_;have t:=a.lt b l;obtain j|⟨_,o,n,x⟩:=p b e.symm;grind;obtain⟨rfl,_⟩|⟨g,cap,q,rfl,_,f,_⟩:=a.2;simp[Value.ownBlock]at l;obtain rfl:g=b:=by grind [Value.ownBlock]
  rw[f]at n;cases n;cases x
def WIv.appended{w W w1:World}{bt:Option Nat}{pre:List Ob}{x:Ob}{v v':Value}{tmp:Obj}(C:∀r,bt=J r->r<xz (xj w))(h:WIv w bt pre W)(A:Boxed W (xz<|xj w) 104 v)
  (g:W.ownsRow (xz (xj w)+4) 119 5 v (I pre)<|V0 pre) (d:w1.ownsRow (xz (xj w)+4) 119 5 v' (I pre+1)<|V0 pre++TU x)
  (a:(W.alloc tmp).grownBy w1 v.ownBlock) (f:v'.ownBlock=v.ownBlock\/v'.ownBlock=J (xz<|xj<|W.alloc tmp)):
  Boxed w1 (xz<|xj w) 104 v/\KeepsFrom (xz (xj w)+4) W (w1.setCell ⟨xz<|xj w,0,U⟩ v')/\KpW (xz<|xj w) (xz (xj w)+4) W (w1.setCell ⟨xz<|xj w,0,U⟩ v')/\WIv w bt (pre++[x]) (w1.setCell ⟨xz<|xj w,0,U⟩ v'):=by
 have u:=h.size;obtain⟨y,l,F,j,B⟩:=A.appended ZgB (qI g (B':=xz<|xj w) Z0) Z0 (Zhm _) (qI d (B':=xz<|xj w) Z0) a;have z:∀b,v.ownBlock=J b->xz (xj w)+4<=b:=λb p=>(g.lt b p).1
 have t:(w1.setCell ⟨xz<|xj w,0,U⟩ v').ownsRow (xz (xj w)+4) 119 5 v' (I pre+1)<|V0 pre++TU x:=d.kept (ZjL w1 (xz<|xj w) v') (by
  cases p:v'.ownBlock with
  |none=>simp
  |some b=>exact .inr λe=>by have G:=(d.lt b p).1;grind)
 refine⟨y,j.from _,⟨j.size,λk o n H D K=> ?_,λk n e=> ?_⟩,⟨v',l,?_⟩,?_,?_,ZhU u j.size⟩;rw[ZhD _ _ _ _ D,a.block k (by have:=Y7 n;simp;omega) (λe=> ?_),Zhz _ _ _<|Y7 n,n];grind [jn,trans];rw[jn l]at e;rw[jn A];obtain f|f:=f;simp_all;rw[f]at e;simp at e;omega;simp_all[Zi3,Z7b];have q:Boxed w1 (xz (xj w)+1) 34<|.int .i64 0:=(h.e.alloc tmp).kept a (λe=>Zgl);exact(ZhD _ _ _ _ Z1).trans q;refine Td (Td (Td h.gr (ZiH W tmp U) Z1) a λr e=>.inr ?_) (ZjL w1 (xz<|xj w) v') λr e=>.inr ?_;grind;simp_all
def KpW.alloc{a base W}o(d:a<xz (xj W)):KpW a base W<|W.alloc o:=by
 refine⟨Z1,λk h f _ _ _=>(Zhz _ _ _ Zgl).trans f,λk _ g=> ?_⟩;simp_all[UQ,ZiQ]
end Vm
namespace Vm
open Go Go.Proofs Go.RowKit Go.Shelf
attribute [local go_sem] Oper.semAt_some
def Z5K:(xP.info? 119).map (λi=>(i.zero,i.size,i.bytes))=J (J<|.agg #[.int .i64 0,.int .i64 0,.int .i64 0,.bool xw,.int .u64 0],5,40):=Z2
def unO:xP.underlying 104=J (.slice 119):=Z2
def Z3o(w:World)a b c d e t:∀j u,[a,b,c,d,e][j]?=J u->(w.alloc<|.cells #[a,b,c,d,e] t).cell? ((⟨xz<|xj w,0,U⟩:Addr).add j)=J u:=by
 intro j u h;have:=Zhv _ _ j _ _ _<|ZhT w<|.cells #[a,b,c,d,e] t;grind [Addr.add]
def Fv(w:World)(ws:List Int)(shs:List<|Int×Int)(old:Bool)(bt:Option Nat)(K:Nat->World->Prop)(e:Ending)(W:World):Prop:=
 ∃v n a,e=.returned (.tuple #[v,.int .i64 n])/\w.grownBy W bt/\W.ownsRow (xz (xj w)+4) 119 5 v (I a) (V0 a)/\((n=0/\ye ws shs old K a W)\/((n=2\/n=3)/\a=[]/\ZN ws shs old=([],n)))
def Z0h{w:World}{ws:List Int}{g o cap:Nat}{bt:Option Nat}{p j:Value}{shs:List (Int×Int)}{old:Bool}{K:Nat->World->Prop}(hw:Words w ws g o cap)
  (b5:p=.slice (J ⟨g,o,U⟩) (I ws) cap\/(ws=[]/\∃a c,p=.slice a 0 c)) (hg:(ws≠[]->g<xz (xj w))/\g<xz (xj w)+4/\g≠xz (xj w)) (d6:j=.nilFunc\/∃f vs,j=.func (.func f) #[] vs)
  (a0:∀r,bt=J r->r<xz (xj w)) (d5:J g≠bt) (a6:zu ws g o cap j shs old bt K) (b6:K 0 w)
  (z:∀t A B row,K t A->A.grownBy B row->(∀r,row=J r->xz (xj w)<=r)->K t B)
  (b8:∀bl base t A B,xz (xj w)<=bl->xz (xj w)<=base->K t A->KpW bl base A B->K t B):
  Calls xP 95 #[p,j] w (Fv w ws shs old bt K):=by
 refine(Zjs (n:=5)).1 ?_;have f9:∀(fn:Go.Fn) (first cap:Array Value) (w:World),(Instr.makeFunc fn first cap).run xP w=.ok (.func fn first cap) w:=λ_ _ _ _=>rfl;have e0:∃a n c,p=.slice a n c:=by
  obtain rfl|⟨_,a,c,rfl⟩:=b5;simp;simp
 refine callsIn_of_wp_marks Fr rfl trivial ?_ rfl;simp only[Try.ntmps95,ZiP,ZiD,Ziu,Nat.reduceAdd,Nat.reduceSub,Zja,Zjb,ZjF,Zjh,Zic,ZiC];have he:=λW=>Z3C W p j e0 d6;gi_wp2
 refine⟨trivial,(Zjs.2<|he _).mono ?_⟩;rintro e w1 ⟨rfl,rfl⟩;gi_wp2
 have a2:∀b:Nat,b<xz (xj w)->((((w.alloc<|Obj.cells #[.slice U 0 0] 104).alloc<|.cells #[.int .i64 0] 34).alloc<|.cells #[p] 28).alloc<|.cells #[j] 167).heap[b]?=w.heap[b]? :=λb hb=>by
  grind [Below.heap_alloc]
 have b0:Boxed ((((w.alloc<|Obj.cells #[.slice U 0 0] 104).alloc<|.cells #[.int .i64 0] 34).alloc<|.cells #[p] 28).alloc<|.cells #[j] 167) (xz<|xj w) 104<|.slice U 0 0:=(((Boxed.new w _ _).alloc _).alloc _).alloc _;have b1:Boxed ((((w.alloc<|Obj.cells #[.slice U 0 0] 104).alloc<|.cells #[.int .i64 0] 34).alloc<|.cells #[p] 28).alloc<|.cells #[j] 167) (xz (xj w)+1) 34<|.int .i64 0:=by
  have:=((Boxed.new (w.alloc<|Obj.cells #[.slice U 0 0] 104) 34<|.int .i64 0).alloc<|.cells #[p] 28).alloc<|.cells #[j] 167;rwa[Zjp]at this
 have b2:Boxed ((((w.alloc<|Obj.cells #[.slice U 0 0] 104).alloc<|.cells #[.int .i64 0] 34).alloc<|.cells #[p] 28).alloc<|.cells #[j] 167) (xz (xj w)+2) 28 p:=by
  have:=(Boxed.new ((w.alloc<|Obj.cells #[.slice U 0 0] 104).alloc<|.cells #[.int .i64 0] 34) 28 p).alloc<|.cells #[j] 167;simp_all
 have b3:Boxed ((((w.alloc<|Obj.cells #[.slice U 0 0] 104).alloc<|.cells #[.int .i64 0] 34).alloc<|.cells #[p] 28).alloc<|.cells #[j] 167) (xz (xj w)+3) 167 j:=by
  have:=Boxed.new (((w.alloc<|Obj.cells #[.slice U 0 0] 104).alloc<|.cells #[.int .i64 0] 34).alloc<|.cells #[p] 28) 167 j;simp_all
 have L:w.grownBy ((((w.alloc<|Obj.cells #[.slice U 0 0] 104).alloc<|.cells #[.int .i64 0] 34).alloc<|.cells #[p] 28).alloc<|.cells #[j] 167) bt:=⟨rfl,rfl,rfl,Zgn,λk hk _=>a2 k hk⟩;have P:xz (xj<|(((w.alloc<|Obj.cells #[.slice U 0 0] 104).alloc<|.cells #[.int .i64 0] 34).alloc<|.cells #[p] 28).alloc<|.cells #[j] 167)=xz (xj w)+4:=Z1;generalize f7:(((w.alloc<|Obj.cells #[.slice U 0 0] 104).alloc<|.cells #[.int .i64 0] 34).alloc<|.cells #[p] 28).alloc (.cells #[j] 167)=W0 at*;have e7:Stat6 ws g o cap p (xz (xj w)+2) (xz (xj w)+3) (xz (xj w)+4) (xz<|xj w) bt j W0:=by
  refine⟨⟨λi x F=> ?_,hw.le,hw.cap,hw.len,hw.u64⟩,b5,b2,b3,λhn=> ?_,⟨Z0,Z0,Z0,Z0⟩,⟨Z0,Z0,Z0⟩,d5,?_,?_⟩;rw[<-hw.Z i x F];grind [World.cell?_of_block];obtain⟨x,F⟩:∃x,ws[0]?=J x:=by cases ws with|nil=>simp_all|cons x l=>simp
  have:=hw.Z 0 x F;rw[a2 g<|hg.1 hn];unfold World.cell? at this;cases hh:w.heap[g]? with
  |none=>simp_all
  |some ob=>
   refine⟨ob,rfl,?_⟩;grind [Obj.isCells]
  grind;grind
 have a5:K 0 W0:=z 0 w W0 U b6 ⟨L.os,L.tape,L.output,L.size,λk hk _=>a2 k hk⟩ Z1;have b4:=Z3B 4 e7 Z0 (λe=>Zgl) a6 a5 (λt A B hA O=>z t A B U hA ⟨O.os,O.tape,O.output,O.size,λk hk _=>O.block k hk⟩ Z1) (λt A B hA O=>b8 _ _ t A B (Zhm _) Z0 hA O)
 refine ZbD rfl Z0 (gf:=100) (lb:=#[.pointer<|J ⟨xz (xj w)+2,0,U⟩,.pointer<|J ⟨xz (xj w)+3,0,U⟩]) rfl trivial (enters_of EX Z2 rfl)
  b4 (λr e=>Zgl) KpW.trans (λW l o o' h1 h2 h3 _=>KpW.put o' h2 h3 Z0) (ZhH _ _) (λ_=>rfl)
  (WIv w bt) (P▸WIv.own a0) (λpre W h=>h.tx) ⟨⟨_,b0,ZiK _ _ _ _⟩,b1,L,Z0⟩ ?hS
  (λx a' W=>∃y,xz (xj w)+4<=y/\W.heap[y]?=J (.cells #[.int .i64 x.Z,.int .i64 x.size,.int .i64 x.M,.bool x.gone,.int .u64 x.target] 119 (0,0))/\
   a'= {tmps:=#[p,j,xy,xy,.pointer<|J ⟨xz<|xj w,0,U⟩,.pointer<|J ⟨xz (xj w)+1,0,U⟩,.pointer<|J ⟨y,0,U⟩,
    .func (.func 98) #[] #[.pointer<|J ⟨xz<|xj w,0,U⟩,.pointer<|J ⟨xz (xj w)+1,0,U⟩],p,j,.func (.func 100) #[] #[.pointer<|J ⟨xz (xj w)+2,0,U⟩,.pointer<|J ⟨xz (xj w)+3,0,U⟩],WQ x,xy,xy,xy,xy,xy],defers:=[]})
  ?hAx ?assign ?body ?done ?panic
 case hS=>
  rintro u X Y row ⟨t,hK,hR⟩ M d;exact⟨t,z t X Y row hK M λr e=>(d r e).elim (λe2=>by cases e2) (λe2=>Z0),hR⟩
 case hAx=>
  rintro x a' s X Y row ⟨y,O,F,ha⟩ M d;refine⟨y,O,(M.block y (Y7 F) λe=> ?_).trans F,ha⟩;obtain e2|⟨_,o2,h2,h3⟩:=d y e.symm;cases e2;rw[F]at h2;cases h2;cases h3
 case assign=>
  rintro l pre x W K2 q b7;simp only[List.zip_cons_cons,Array.zip,WQ];gi_wp2
  exact b7 _ _ ((KeepsOthers.alloc W _).from _) (KpW.alloc _ (by have:=q.size;omega)) ((WIv.own a0).alloc _ q) ⟨xz<|xj W,q.size,ZhT W _,rfl⟩
 case body=>
  rintro l pre x a' W q ⟨y,f6,F,rfl⟩ a8;obtain⟨v,Q,d⟩:=q.row;obtain⟨i0,d7,e8,e9,f2⟩:=info_parts Z5K;obtain⟨G,H,rfl⟩:=Wc d;have c1:=Q.cell;have c2:=Q.frozen;have d0:W.cell? ⟨y,0,U⟩=J (.int .i64 x.Z):=ZgJ;have d1:W.cell? ⟨y,1,U⟩=J (.int .i64 x.size):=ZgJ;have d2:W.cell? ⟨y,2,U⟩=J (.int .i64 x.M):=ZgJ;have d3:W.cell? ⟨y,3,U⟩=J (.bool x.gone):=ZgJ;have d4:W.cell? ⟨y,4,U⟩=J (.int .u64 x.target):=ZgJ;have g4:I pre<=1000000:=ZhU (Nat.le_of_lt a8) hw.len;have f5:=q.size;have HA:=λtmp w1 v'=>WIv.appended (W:=W) (w1:=w1) (x:=x) (v':=v') (tmp:=tmp) a0 q Q d;gi_wp2_with (gi_at_builtin;refine wpListIn_append_own_at _ rfl _ _ 104 rfl (xz (xj w)+4) 119 i0 _ 5 40 unO d7 e8 e9 f2 rfl ZgB _ _ _ rfl (d.alloc _) ⟨xz<|xj W,0,U⟩ 1 1 (TU x) rfl rfl (Z3o _ _ _ _ _ _ _) (by simp[TU,Value.oneCell']) (by grind [maxLen]) Z0 Zgn ?_;intro v' w1 N a1 _ c0;obtain⟨g',f4,rfl⟩:=ownsRow_succ N;obtain⟨e1,e2,e3,e4⟩:=HA _ _ _ N a1 c0;have e5:=e1.cell;have e6:=e1.frozen)
  rw[P];exact⟨e2,e3,e4⟩
 case done=>
  rintro D u W hD hS q Z;obtain⟨v,Q,d⟩:=q.row;obtain⟨G,H,rfl⟩:=Wc d;have c1:=Q.cell;have c2:=Q.frozen;have c3:=q.e.cell;have c4:=q.e.frozen;rw[P]at hD;gi_wp2
  have a4:((W.setCell ⟨xz<|xj w,0,U⟩<|.slice G (I u) H).setCell ⟨xz (xj w)+1,0,U⟩<|.int .i64 0).heap[D]?=J (.deferred<|J []):=by
   rw[ZhD _ _ _ _ Zgl,ZhD _ _ _ _ Zgl];exact Z
  have f0:Boxed ((W.setCell ⟨xz<|xj w,0,U⟩<|.slice G (I u) H).setCell ⟨xz (xj w)+1,0,U⟩<|.int .i64 0) (xz<|xj w) 104<|.slice G (I u) H:=
   (ZhD _ _ _ _ Z1).trans (Q.set _)
  have f1:Boxed ((W.setCell ⟨xz<|xj w,0,U⟩<|.slice G (I u) H).setCell ⟨xz (xj w)+1,0,U⟩<|.int .i64 0) (xz (xj w)+1) 34<|.int .i64 0:=
   Boxed.set _ (show Boxed (W.setCell ⟨xz<|xj w,0,U⟩<|.slice G (I u) H) (xz (xj w)+1) 34 (.int .i64 0)from(ZhD _ _ _ _ Z1).trans q.e)
  have g1:=ZjL W (xz<|xj w)<|.slice G (I u) H;have g2:=ZjL (W.setCell ⟨xz<|xj w,0,U⟩<|.slice G (I u) H) (xz (xj w)+1)<|.int .i64 0;have R:=d.lt
  have r2:=(d.kept g1 (by
   cases hb:(Value.slice G (I u) H).ownBlock with
   |none=>simp
   |some b=>exact .inr λe=>by have:=(R b hb).1;grind)).kept g2 (by
   cases hb:(Value.slice G (I u) H).ownBlock with
   |none=>simp
   |some b=>exact .inr λe=>by have:=(R b hb).1;grind)
  generalize f8:(W.setCell ⟨xz<|xj w,0,U⟩<|.slice G (I u) H).setCell ⟨xz (xj w)+1,0,U⟩ (.int .i64 0)=W2 at*;have g3:=Zkb W2 D<|.deferred U;have S:Boxed (W2.putObj D<|.deferred U) (xz<|xj w) 104<|.slice G (I u) H:=(ZhZ Z0).trans f0;have T:Boxed (W2.putObj D<|.deferred U) (xz (xj w)+1) 34<|.int .i64 0:=(ZhZ Z0).trans f1;have k0:=S.cell;have k1:=T.cell;refine⟨Z1,.inl ⟨D,_,rfl,ZkA a4,?_⟩⟩;refine⟨Z1,.inr ⟨λh=>ZgA,.func 98,_,98, #[.pointer<|J ⟨xz<|xj w,0,U⟩,.pointer<|J ⟨xz (xj w)+1,0,U⟩],rfl,Zhb,λ_ _=>trivial,?_⟩⟩;refine(Z3j _ _ _ _).mono ?_;rintro e u' f3 ⟨rfl,rfl,rfl⟩;refine⟨.tuple #[.slice G (I u) H,.int .i64 0],by simp[results,Try.results95,go_sem,k0,k1],?_⟩;obtain⟨t,hK,hR⟩:=hS;refine⟨_,0,u,rfl,Td (Td (Td q.gr g1 λr e=>.inr ?_) g2 λr e=>.inr ?_) g3 λr e=>.inr ?_,ownsRow_putObj r2 _ a4 rfl,.inl ⟨rfl,t,z t _ _ _ (z t _ _ _ (z t _ _ _ hK g1 λr e=> ?_) g2 λr e=> ?_) g3 λr e=> ?_,hR⟩⟩;all_goals (grind)
 case panic=>
  rintro D chain pre W hD ⟨e,c8,rfl,b9⟩ q Z;rw[P]at hD;obtain⟨v,Q,d⟩:=q.row;have g3:=Zkb W D<|.deferred U;have S:Boxed (W.putObj D<|.deferred U) (xz<|xj w) 104 v:=(ZhZ Z0).trans Q;have T:Boxed (W.putObj D<|.deferred U) (xz (xj w)+1) 34<|.int .i64 0:=(ZhZ Z0).trans q.e;have C:w.grownBy (W.putObj D<|.deferred U) bt:=Td q.gr g3 λr e=>.inr Zgl;refine⟨Z1,.inl ⟨D,_,rfl,ZkA Z,?_⟩⟩;refine⟨Z1,.inr ⟨λh=>ZgA,.func 98,_,98, #[.pointer<|J ⟨xz<|xj w,0,U⟩,.pointer<|J ⟨xz (xj w)+1,0,U⟩],rfl,Zhb,λ_ _=>trivial,?_⟩⟩;refine(Z3k _ (xz<|xj w) (xz (xj w)+1) e _ _ _ S T Z0).mono ?_;rintro e' u' f3 ⟨rfl,rfl,h0,h1,⟨d9,hk⟩,d8,a3,a9⟩;have k0:=h0.cell;have k1:=h1.cell;refine⟨.tuple #[.slice U 0 0,.int .i64 e],by simp[results,Try.results95,go_sem,k0,k1],?_⟩;refine⟨_,e,[],rfl,⟨d8.trans C.os,a3.trans C.tape,a9.trans C.output,ZhU C.size d9,λk a7 hn=> ?_⟩,ZiK _ _ _ _,.inr ⟨c8,rfl,b9⟩⟩;exact(hk k (Zhr a7 C.size) Z0 Z0).trans (C.block k a7 hn)
end Vm
namespace Vm
open Go Go.Proofs Go.RowKit Go.Shelf
theorem Sx{w G k n v}(r:Rd w G (.int k n) v):v=.int k n:=by cases r;rfl
theorem Oy{w G b v}(r:Rd w G (.bool b) v):v=.bool b:=by cases r;rfl
def Z0o{w G ws v}(r:Rd w G (.sl<|ws.map vu) v)(B:∀b,G b->b<xz (xj w))(u:I ws<=1000000)(y:∀x∈ws,ZB x)q:
  ∃g o cap,Words w ws g o cap/\(v=.slice (J ⟨g,o,U⟩) (I ws) cap\/(ws=[]/\∃a c,v=.slice a 0 c))/\((ws≠[]->g<xz (xj w))/\(g<(xz<|xj w)\/g=q)):=by
 generalize p:ws.map vu=L at r;cases r with
 |nil a cap C=>
  have:ws=[]:=Zgm;subst this;exact⟨q,0,0,⟨Z1,Z1,Zgl,Z1,Z1⟩,Z1,Z1,.inr rfl⟩
 |sl _ b o cap k vs d l A f h n=>
  subst p;simp only[ZhN]at d h⊢;refine⟨b,o,cap,⟨λi x z=> ?_,d,l,u,y⟩,.inl rfl,Zgm,Zgm⟩;have j:(ws.map vu)[i]?=J (vu x):=by rw[ZhG,z];rfl
  have t:k=1:=((f _<|Zhq j).1).symm;subst t;have D:i<I ws:=Zgl;rw[h i Z0];have:=n i (vu x) (by have:=VT f j 0 Z0;simp_all);rw[Sx this]
def Zal{w G shs v}(r:Rd w G (.sl<|shs.map We) v)(q:∀b,G b->b<xz (xj w)):
  (∃g o cap,v=.slice (J ⟨g,o,U⟩) (I shs) cap/\I shs<=cap/\cap<=maxLen/\g<xz (xj w)/\∀i x,shs[i]?=J x->w.cell? ⟨g,o+i*2,U⟩=J (.int .i64 x.1)/\w.cell? ⟨g,o+i*2+1,U⟩=J (.int .i64 x.2))\/
  (∃a cap,v=.slice a 0 cap/\shs=[]):=by
 generalize t:shs.map We=L at r;cases r with
 |nil a cap A=>
  simp_all
 |sl _ b o cap k vs h l n d p j=>
  subst t;simp only[ZhN]at h p⊢;refine .inl ⟨b,o,cap,rfl,h,l,q b n,λi x u=> ?_⟩;have f:(shs.map We)[i]?=J (We x):=by rw[ZhG,u];rfl
  have C:k=2:=((d _<|Zhq f).1).symm;have B:i<I shs:=Zgl;have y:=j (i*2) (vi x.1) (by have:=VT d f 0 Z0;simp_all);have z:=j (i*2+1) (vi x.2) (by have:=VT d f 1 Z0;simp_all);grind [Sx,Nat.add_assoc]
def Mw{w G}:∀l i c,(flat<|l.map ZM)[i]?=J c->Rd w G c ((V0 l).getD i xy)
 | [],i,c,h=>Zgm
 |x::l,i,c,h=>by
  rw[ZhR,Qe]at h;have e:V0 (x::l)=TU x++V0 l:=by simp[V0]
  by_cases d:i<5
  match i,d with
  |0,_=>simp at h;subst h;exact .int _ _
  |1,_=>simp at h;subst h;exact .int _ _
  |2,_=>simp at h;subst h;exact .int _ _
  |3,_=>simp at h;subst h;exact .bool _
  |4,_=>simp at h;subst h;exact .int _ _
  have a:(flat<|l.map ZM)[i-5]?=J c:=by
   rw[ZhJ Zgm]at h;simpa[ZM,V.cells]using h
  have:=Mw (w:=w) (G:=G) l _ c a;have f:(TU x++V0 l).getD i xy=(V0 l).getD (i-5) xy:=by
   simp[List.getD_eq_getElem?_getD];rw[ZhJ (by grind [TU])];simp[TU]
  simp_all
def Z7c(l:List Ob):∀x∈l.map ZM,V.au 5 x:=by
 intro x a;obtain⟨o,_,rfl⟩:=ZhC.1 a;exact⟨rfl,Z1⟩
def Mx{w G B e v l}(h:w.ownsRow B e 5 v (I l)<|V0 l)(q:∀c,B<=c->c<xz (xj w)->G c):Rd w G (.sl<|l.map ZM) v:=by
 have a:=h.1;obtain⟨rfl,p⟩|⟨g,cap,j,rfl,r,t,o,d,_⟩:=h.2;have:l=[]:=Zgm;subst this;exact .nil _ _ Zgl
 have:=Rd.sl (w:=w) (G:=G) _ g 0 cap 5 (λi=>(V0 l).getD i xy) Zgm d Zgl (Z7c l) (λi n=>by
   have f:i< I (V0 l):=by rw[a];simpa using n
   rw[Zi5,h.cellAt i Z0];simp[f]) (λi c k=>Mw l i c k)
 simp_all
def Zbt{ws shs old K n xs W}(a:shs=[])(h:(n=0/\ye ws shs old K xs W)\/((n=2\/n=3)/\xs=[]/\ZN ws shs old=([],n))):ZN ws shs old=(xs,n):=by
 obtain⟨rfl,t,_,h⟩|⟨_,rfl,h⟩:=h;simp_all;exact h
def A7:RX:=by
 intro W O P;refine⟨Z2,λw G vs L p q=> ?_⟩;have r0:=q 0 _ rfl;obtain⟨⟨l⟩⟩:=vs;simp at p;rename_i v0 l;cases l with
 |cons _ _=>simp at p
 |nil=>
  simp at r0;obtain⟨g,o,cap,C,k,x,N⟩:=Z0o r0 L O P<|xz (xj w)+1;have z:=Z0h (w:=w) (shs:=[]) (old:=xw) (bt:=U) (K:=λt _=>t=0) C k ⟨x,Z0,Z0⟩ (.inl rfl) Z1 Z1 Z2O rfl (λt A B row h _ _=>h) (λQ base t A B _ _ h _=>h);obtain⟨S,T,sc,rfl⟩:∃a n c,v0=.slice a n c:=by
   obtain rfl|⟨_,a,c,rfl⟩:=k;simp;simp
  have D:=Zhp z;clear z C k r0 q;go_enter Z25,Try.ntmps82;go_wp2_with (go_at_call 95;refine D.out.mono ?_;rintro e w1 ⟨v,n,X,rfl,f,d,u⟩;have F:=Zhp<|And.intro f<|And.intro d u;clear f d u)
  obtain⟨f,d,u⟩:=F.out;have M:=Zbt rfl u;refine Zi8 (v:=.tuple #[v,.int .i64 n]) (by simp[results,Try.results82,go_sem]) rfl ⟨_,rfl,(ZhH _ w).grown f (Zhm _) (λj e=>by cases e),?_⟩;rw[M];refine .am _ _ rfl ?_;intro i y r
  match i,r with
  |0,r=>cases r;exact Mx d λc R H=>.inr ⟨Z0,H⟩
  |1,r=>cases r;exact .int _ _
def KpW.cell{j base A B}(h:KpW j base A B){k i c}(hc:A.cell? ⟨k,i,U⟩=J c)(n:k<base)(l:k≠j):B.cell? ⟨k,i,U⟩=J c:=by
 unfold World.cell? at hc;cases d:A.heap[k]? with
 |none=>simp_all
 |some g=>
  have f:g.isCells=xk:=by
   rw[d]at hc;cases g<;>simp_all [Obj.isCells]
  rw[<-hc];exact Zie (a:=⟨k,i,U⟩)<|(h.same k g d f l Z0).trans d.symm
def KOld.grown{shs bt a t n v A B row}(h:KOld shs bt a v t A)(d:A.grownBy B row)(p:bt<n)(l:a<n)(u:shs≠[]->∀g o cap,v=.slice (J ⟨g,o,U⟩) (I shs) cap->g<n)(q:∀r,row=J r->n<=r):KOld shs bt a v t B:=by
 let⟨f,j,k⟩:=h;exact⟨(d.block _ Zgl Zgl).trans f,j.grown d Zgl Zgl,k⟩
def KOld.kp{shs bt d t n j base v A B}(h:KOld shs bt d v t A)(a:KpW j base A B)(u:bt<n)(r:d<n)(w:shs≠[]->∀g o cap,v=.slice (J ⟨g,o,U⟩) (I shs) cap->g<n)(D:n<=j)(h2:n<=base):KOld shs bt d v t B:=by
 let⟨k1,⟨y,z⟩,C⟩:=h;refine⟨a.same _ _ k1 rfl Z0 Z0,⟨a.same _ _ y rfl Z0 Z0,?_⟩,C⟩;obtain⟨g,o,cap,rfl,l,p,q,f⟩|h:=z;refine .inl ⟨g,o,cap,rfl,l,p,Zhr q a.size,λi x k=> ?_⟩;have:=w (λe=>Zgm) _ _ _ rfl;exact⟨a.cell (f i x k).1 Z0 Z0,a.cell (f i x k).2 Z0 Z0⟩;simp_all
def Words.ru{w W ws g o cap}(h:Words w ws g o cap)(d:ws≠[]->g<xz (xj w))(a:Below (xz<|xj w) w W):Words W ws g o cap:=
 ⟨λi x f=>by rw[a.cell (p:=⟨g,o+i,U⟩)<|d (λe=>Zgm)];exact h.Z i x f,h.le,h.cap,h.len,h.u64⟩
def A6:RY:=by
 intro C d hl a7 hu b2;refine⟨Z2,λw G vs hG N P=> ?_⟩;have r0:=P 0 _ rfl;have r1:=P 1 _ rfl;obtain⟨⟨l⟩⟩:=vs;simp at N;rename_i v0 l;cases l with
 |nil=>simp at N
 |cons v1 l=>
 cases l with
 |cons _ _=>simp at N
 |nil=>
  simp at r0 r1;obtain⟨g,o,cap,hw,M,R,a0⟩:=Z0o r0 hG hl hu<|xz (xj w)+3;have O:=Zal r1 hG;obtain⟨sa,sn,sc,rfl⟩:∃a n c,v0=.slice a n c:=by
   obtain rfl|⟨_,a,c,rfl⟩:=M;simp;simp
  obtain⟨k,q,rfl⟩:∃a c,v1=.slice a (I d) c:=by
   grind
  have b0:((w.alloc<|.cells #[.slice k (I d) q] 155).alloc<|.cells #[.int .i64 0] 3).heap[xz<|xj w]?=J (.cells #[.slice k (I d) q] 155 (0,0)):=(Zhz _ _ _ Z1).trans<|ZhT w _;have b1:((w.alloc<|.cells #[.slice k (I d) q] 155).alloc<|.cells #[.int .i64 0] 3).heap[xz (xj w)+1]?=J (.cells #[.int .i64 0] 3 (0,0)):=by
   have:=ZhT (w.alloc<|.cells #[.slice k (I d) q] 155)<|.cells #[.int .i64 0] 3;simp_all
  have z:Below (xz<|xj w) w<|(w.alloc<|.cells #[.slice k (I d) q] 155).alloc<|.cells #[.int .i64 0] 3:=((ZhH _ w).alloc (Zhm _) _).alloc Z1 _;have L:xz (xj<|(w.alloc<|.cells #[.slice k (I d) q] 155).alloc<|.cells #[.int .i64 0] 3)=xz (xj w)+2:=Z1;have a5:d≠[]->∀g o cap,Value.slice k (I d) q=.slice (J ⟨g,o,U⟩) (I d) cap->g<xz (xj w):=by
   intro X g o cap e;obtain⟨g1,Y,c1,e1,_,_,h4,_⟩|⟨_,_,_,h⟩:=O;simp_all;simp_all
  have W:Calls xP 95 #[.slice sa sn sc,.func (.func 96) #[] #[.pointer<|J ⟨xz (xj w)+1,0,U⟩,.pointer<|J ⟨xz<|xj w,0,U⟩]] ((w.alloc<|.cells #[.slice k (I d) q] 155).alloc<|.cells #[.int .i64 0] 3)
    (Fv ((w.alloc<|.cells #[.slice k (I d) q] 155).alloc<|.cells #[.int .i64 0] 3) C d xk (J<|xz (xj w)+1)<|KOld d (xz (xj w)+1) (xz<|xj w)<|.slice k (I d) q):=by
   generalize a8:(w.alloc<|.cells #[.slice k (I d) q] 155).alloc (.cells #[.int .i64 0] 3)=W1 at*;have K:d≠[]->∀g o cap,Value.slice k (I d) q=.slice (J ⟨g,o,U⟩) (I d) cap->g<xz (xj W1):=λX g o cap e=>Zgl;refine Z0h (hw.ru R z) M ⟨λh=>Zgl,Z0,Z0⟩ (.inr ⟨_,_,rfl⟩) (λr e=>Zgl) (λe=>Zgl) (Z2P a7 Z0<|λX g o cap e=>Zgl) ⟨b1,⟨b0,?_⟩,Z0⟩ (λt A B row h hg hr=>h.grown hg (n:=xz<|xj W1) Z0 Z0 K hr) (λbl base t A B h1 h2 h W=>h.kp W (n:=xz<|xj W1) Z0 Z0 K h1 h2);obtain⟨g1,Y,c1,e1,a1,a2,a3,a4⟩|⟨a,c,e1,h⟩:=O;exact .inl ⟨g1,Y,c1,e1,a1,a2,Z0,λi x hx=>⟨(z.cell (p:=⟨g1,Y+i*2,U⟩) a3).trans (a4 i x hx).1,(z.cell (p:=⟨g1,Y+i*2+1,U⟩) a3).trans (a4 i x hx).2⟩⟩;simp_all
  have F:∀w1 v n (Q:List Ob),(v=.slice U 0 0/\Q=[]\/w1.ownsRow (xz (xj w)+6) 119 5 v (I Q) (V0 Q))->ZN C d xk=(Q,n)->Rd w1 (λb=>xk=xw/\G b\/xz (xj w)<=b/\b<xz (xj w1)) (.am [.sl<|(ZN C d xk).1.map ZM,vi (ZN C d xk).2]) (.tuple #[v,.int .i64 n]):=by
   intro w1 v n Q f hW;rw[hW];refine .am _ _ rfl ?_;intro i y T
   match i,T with
   |0,T=>
    cases T;obtain⟨rfl,rfl⟩|f:=f;exact .nil _ _ (by grind [maxLen]);exact Mx f λc h1 h2=>.inr ⟨Z0,h2⟩
   |1,T=>cases T;exact .int _ _
  have S:Calls xP 95 #[.slice sa sn sc,.func (.func 96) #[] #[.pointer<|J ⟨xz (xj w)+1,0,U⟩,.pointer<|J ⟨xz<|xj w,0,U⟩]] ((w.alloc<|.cells #[.slice k (I d) q] 155).alloc<|.cells #[.int .i64 0] 3) λe w1=>
    (∃(v:Value) (t:Nat),e=.returned (.tuple #[v,.int .i64 0])/\w1.cell? ⟨xz (xj w)+1,0,U⟩=J (.int .i64 t)/\w1.cell? ⟨xz<|xj w,0,U⟩=J (.slice k (I d) q)/\(t:Int)<I d/\Hid (Below (xz<|xj w) w w1/\Rd w1 (λb=>xk=xw/\G b\/xz (xj w)<=b/\b<xz (xj w1)) (.am [.sl<|(ZN C d xk).1.map ZM,vi (ZN C d xk).2]) (.tuple #[.slice U 0 0,.int .i64 3])))\/
    (∃(v:Value) (t:Nat),e=.returned (.tuple #[v,.int .i64 0])/\w1.cell? ⟨xz (xj w)+1,0,U⟩=J (.int .i64 t)/\w1.cell? ⟨xz<|xj w,0,U⟩=J (.slice k (I d) q)/\¬(t:Int)<I d/\Hid (Below (xz<|xj w) w w1/\Rd w1 (λb=>xk=xw/\G b\/xz (xj w)<=b/\b<xz (xj w1)) (.am [.sl<|(ZN C d xk).1.map ZM,vi (ZN C d xk).2]) (.tuple #[v,.int .i64 0])))\/
    (∃(v:Value) (n:Int),e=.returned (.tuple #[v,.int .i64 n])/\¬n=0/\Hid (Below (xz<|xj w) w w1/\Rd w1 (λb=>xk=xw/\G b\/xz (xj w)<=b/\b<xz (xj w1)) (.am [.sl<|(ZN C d xk).1.map ZM,vi (ZN C d xk).2]) (.tuple #[.slice U 0 0,.int .i64 n]))):=by
   refine W.mono ?_;rintro e w1 ⟨v,n,Q,rfl,a6,f,hE⟩;rw[L]at f;have hB:Below (xz<|xj w) w w1:=z.trans<|(ZhH _ _).grown a6 Z0 (λj e=>Zgl);obtain⟨rfl,t,⟨hb,hs,ht⟩,u⟩|⟨X,rfl,u⟩:=hE;have Z:w1.cell? ⟨xz (xj w)+1,0,U⟩=J (.int .i64 t):=by rw[Zhv _ _ _ _ _ _ hb];rfl
   have q2:w1.cell? ⟨xz<|xj w,0,U⟩=J (.slice k (I d) q):=by rw[Zhv _ _ _ _ _ _ hs.box];rfl
   by_cases D:t<I d;rw[Zht D]at u;exact .inl ⟨v,t,rfl,Z,q2,Z0,Zhp ⟨hB,F w1 _ _ [] (.inl ⟨rfl,rfl⟩) u⟩⟩;rw[Zhs D]at u;exact .inr<|.inl ⟨v,t,rfl,Z,q2,Z0,Zhp ⟨hB,F w1 _ _ Q (.inr f) u⟩⟩;exact .inr<|.inr ⟨v,n,rfl,Z0,Zhp ⟨hB,F w1 _ _ [] (.inl ⟨rfl,rfl⟩) u⟩⟩
  have HK:=Zhp S;clear hw M r0 r1 P O R a0 W S z b0 b1 a5 L F;go_enter Z27,Try.ntmps84;have a9:∀(fn:Go.Fn) (first cap:Array Value) (w:World),(Instr.makeFunc fn first cap).run xP w=.ok (.func fn first cap) w:=λ_ _ _ _=>rfl;go_wp2_with (go_at_call 95;refine HK.out.mono ?_;rintro e w1 (⟨v,t,rfl,Z,q2,D,H⟩|⟨v,t,rfl,Z,q2,D,H⟩|⟨v,n,rfl,X,H⟩))
  .refine Zi8 (v:=.tuple #[.slice U 0 0,.int .i64 3]) (by simp[results,Try.results84,go_sem]) rfl ⟨_,rfl,H.out.1,H.out.2⟩
  .refine Zi8 (v:=.tuple #[v,.int .i64 0]) (by simp[results,Try.results84,go_sem]) rfl ⟨_,rfl,H.out.1,H.out.2⟩
  .refine Zi8 (v:=.tuple #[.slice U 0 0,.int .i64 n]) (by simp[results,Try.results84,go_sem]) rfl ⟨_,rfl,H.out.1,H.out.2⟩
end Vm
namespace Vm
open Go Go.Proofs Go.RowKit
def Z7d{w G l v}(r:Rd w G (.sl<|l.map ZM) v)(t:∀b,G b->b<xz (xj w)):
  (∃g o cap,v=.slice (J ⟨g,o,U⟩) (I l) cap/\I l<=cap/\cap<=maxLen/\g<xz (xj w)/\∀i x,l[i]?=J x->w.cell? ⟨g,o+i*5,U⟩=J (.int .i64 x.Z)/\w.cell? ⟨g,o+i*5+1,U⟩=J (.int .i64 x.size)/\
   w.cell? ⟨g,o+i*5+2,U⟩=J (.int .i64 x.M)/\w.cell? ⟨g,o+i*5+3,U⟩=J (.bool x.gone)/\w.cell? ⟨g,o+i*5+4,U⟩=J (.int .u64 x.target))\/
  (∃a cap,v=.slice a 0 cap/\l=[]):=by
 generalize u:l.map ZM=L at r;cases r with
 |nil a cap F=>
  simp_all
 |sl _ b o cap k vs j n p d q h=>
  subst u;simp only[ZhN]at j q⊢;refine .inl ⟨b,o,cap,rfl,j,n,t b p,λi x y=> ?_⟩;have f:(l.map ZM)[i]?=J (ZM x):=by rw[ZhG,y];rfl
  have K:k=5:=((d _<|Zhq f).1).symm;have H:i<I l:=Zgl;have z:=h (i*5) (vi x.Z) (by have:=VT d f 0 Z0;simp_all);have A:=h (i*5+1) (vi x.size) (by have:=VT d f 1 Z0;simp_all);have B:=h (i*5+2) (vi x.M) (by have:=VT d f 2 Z0;simp_all);have C:=h (i*5+3) (.bool x.gone) (by have:=VT d f 3 Z0;simp_all);have D:=h (i*5+4) (vu x.target) (by have:=VT d f 4 Z0;simp_all);grind [Sx,Nat.add_assoc,Oy]
end Vm
end
section

end
section
namespace Vm
open Go Go.Proofs
def QU{h:Hp}(a:h.ok):VC xP 13 xw [ZE h]<|.bool<|Yv h:=by
 rw[<-(BM h).1];exact Z0L A7 A6 a
def Z0I{h:Hp}(a:h.ok){k:Int}:VC xP 79 xw [ZE h,vi k]<|.am [.sl<|(UJ h k).1.map ZM,vi (UJ h k).2]:=by
 rw[<-Z6c h k];exact Z0J A7 A6 a
def Ey{h:Hp}(a:h.ok):VC xP 15 xw [ZE h]<|vi<|RO h:=by
 rw[<-Z6g h];exact Z0N A7 A6 a
def VV(l:Zi):List<|Int×Int:=(l.filter λo=>o.gone).map λo=>(o.size,o.M)
def Z0d{ws:Z8}{shs:List (Int×Int)}{old:Bool}:∀(l:Zi) (f a k:Nat) (g:Zi),Tiles ws old a l->I ws<f+a->0<f->shs.drop k=VV l->Xr ws shs old f a k g=(g++l,0)
 | [],f,a,k,g,D,M,K,B=>by
   obtain⟨f,rfl⟩:∃C,f=C+1:=⟨f-1,Z0⟩;have:I ws<=a:=D;have r:I shs<=k:=List.drop_eq_nil_iff.1 B;rw[Xr,Zib this];simp only;rw[Zhs Z0,ZiE]
 |o::l,f,a,k,g,D,M,K,B=>by
  obtain⟨f,rfl⟩:∃C,f=C+1:=⟨f-1,Z0⟩;obtain⟨t,r,L⟩:=D;obtain⟨w,F,j⟩:=r.word;have O:=Yy.1 r.shape;have u:=r.au;have q:=r.gj;rw[t]at F u q;simp only[ZhA]at F q;have z:∀d:Nat,shs.drop d=VV l->Xr ws shs old f (a+1+o.size.toNat) d (g++[o])=(g++o::l,0):=λd p=>by
   rw[Z0d l f _ d _ L Z0 Z0 p];simp
  have y:∃d,Wo shs old a k w=J (o,d)/\shs.drop d=VV l:=by
   unfold Wo;cases n:o.gone;rw[n]at j;simp only[ZhF,Zij]at j;rw[Zhs (λh=>j.1 h.1 h.2),j.2.1];refine⟨k,?_,?_⟩;simp only[Zig];obtain⟨P,R,op,Q,S⟩:=o;simp only at n t j⊢;rw[n,t,j.2.2];rw[B];simp[VV,n];rw[n]at j;simp only[Zig]at j;rw[Zht ⟨j.1,j.2.1⟩];have A:shs.drop k=(o.size,o.M)::VV l:=by rw[B];simp[VV,n]
   have x:k<I shs:=by
    have:=Zit List.length A;simp at this;omega
   rw[Zih x]at A;have G:=(List.cons.inj A).1;have H:=(List.cons.inj A).2;rw[Zhi x,G];simp only[r.shape,Zig];refine⟨k+1,?_,H⟩;obtain⟨P,R,op,Q,S⟩:=o;simp only at n t j⊢;rw[n,t,j.2.2]
  obtain⟨d,N,p⟩:=y;rw[Xr,F];simp only;rw[N];simp only;rw[Zhs Z0,Zhs (by rw[q];simp)];exact z d p
def zp{ws:Z8}{shs:List (Int×Int)}{old:Bool}{l:Zi}(d:Tiles ws old 0 l)(a:shs=VV l):ZN ws shs old=(l,0):=by
 unfold ZN;rw[Z0d l (I ws+1) 0 0 [] d Z0 Z0 Zh8,Zic]
def QX(h:Hp)(low l:Zi):Prop:=∀o∈l,o.gone=xk->∃q,YG h 1 low o.target=J q/\q.size=o.size/\q.M=o.M
def jD{h:Hp}{ws:Z8}{low:Zi}:∀(l:Zi) (f i:Nat) (a:List<|Int×Int),Tiles ws xk i l->I ws<f+i->0<f->QX h low l->Ve h ws low f i a=J (a++VV l)
 | [],f,i,a,u,D,B,r=>by
   obtain⟨f,rfl⟩:∃n,f=n+1:=⟨f-1,Z0⟩;have:I ws<=i:=u;rw[Ve,Zib this];simp[VV]
 |o::l,f,i,a,u,D,B,r=>by
  obtain⟨f,rfl⟩:∃n,f=n+1:=⟨f-1,Z0⟩;obtain⟨C,p,y⟩:=u;obtain⟨w,x,g⟩:=p.word;have F:=Yy.1 p.shape;have j:=p.au;rw[C]at x j;simp only[ZhA]at x;have k:QX h low l:=λq t=>r q<|Zi0 _ t;rw[Ve,x];simp only;cases d:o.gone;rw[d]at g;simp only[ZhF,Zij,true_implies]at g;rw[Zhs g.1,g.2.1];simp only[Zig];rw[jD l f _ a y Z0 Z0 k];simp[VV,d];rw[d]at g;simp only[Zig,true_and]at g;rw[Zht g.1];obtain⟨q,t,z,A⟩:=r o (.head _) d;rw[<-g.2,t];simp only;rw[z,A,jD l f _ _ y Z0 Z0 k];simp[VV,d]
def NW{h:Hp}{p:Pts}(d:Tiles h.H xw 0 p.H)(h2:Tiles h.ab xw 0 p.ab)(f:Tiles h.ah xk 0 p.ah)(g:Tiles h.al xk 0 p.al)(q:QX h p.H p.ah)(r:QX h p.H p.al):XE h=J p:=by
 have k:∀ {n:Z8} {a:Nat} {l:Zi},Tiles n xw a l->VV l=[]:=λ{n a l} x=>by
  unfold VV;rw[List.map_eq_nil_iff,Zko];intro o u t;obtain⟨w,_,j⟩:=(x.ba o u).1.word;rw[Zht t]at j;cases j.1
 unfold XE;rw[zp d (k d).symm,zp h2 (k h2).symm];unfold VK;simp only[ZlG,Zl8,or_self,Zij];rw[jD p.ah _ 0 [] f Z0 Z0 q,jD p.al _ 0 [] g Z0 Z0 r];simp only[Zic,ZhP];rw[zp f rfl,zp g rfl];simp
def OU{h:Hp}{p:Pts}(a:TT h=xk)(d:XE h=J p)(f:SD h p=xk):Yv h=xk:=by
 unfold Yv;rw[a,d];simpa using f
def FX{h:Hp}{k:Int}{l:Zi}{o:Ob}(a:o∈l)(f:∀q∈l,YZ h k q.Z=YZ h k o.Z->q=o):YG h k l (YZ h k o.Z)=J o:=by
 unfold YG;induction l with
 |nil=>simp at a
 |cons x l j=>
  rw[List.find?_cons];by_cases d:YZ h k x.Z=YZ h k o.Z;rw[f x (.head _) d];simp;have:(YZ h k x.Z==YZ h k o.Z)=xw:=Zgz;rw[this];obtain rfl|a:=ZhK.1 a;exact absurd rfl d;exact j a λq g=>f q<|Zi0 _ g
def Ah{h:Hp}{k:Int}{l:Zi}{a:Int}:(YG h k l a).isSome=xk↔ ∃o∈l,YZ h k o.Z=a:=by
 unfold YG;rw[List.find?_isSome];simp
section
structure Tld (h:Hp) (p:Pts):Prop where
 bd:ZJ (Zv h)=xk
 ak:∀k:Int,1<=k/\k<=4->Tiles (Zw h k) (decide (2<k)) 0 (p.at k)
def Gos(h:Hp)(p:Pts)(w one a:Int):Prop:=w=0\/∃k o,(k=one\/k=a)/\o∈p.at k/\w=ZP (Zv h) k o.Z
def Wi(h:Hp)(p:Pts)(k:Int)(i:Nat)(w:Int):Prop:=if 2<k then Gos h p w 3 4 else if k=1/\h.aa<=i then Gos h p w 1 2\/Gos h p w 3 4 else Gos h p w 1 2
section
variable {h:Hp}{p:Pts}
def Tld.ob(t:Tld h p){k:Int}(g:1<=k/\k<=4){o:Ob}(j:o∈p.at k):∃a n m:Nat,o.Z=a/\o.size=n/\o.M=m/\a+(n+1)<=I (Zw h k)/\n<=255/\m<=n:=by
 have d:=((t.ak k g).ba o j).1;have f:=Yy.1 d.shape;obtain⟨a,l⟩:=Zhy d.iz;obtain⟨n,r⟩:=Zhy f.1;obtain⟨m,q⟩:=Zhy f.2.2.1;have:=d.au;grind
def Tld.start(t:Tld h p){k:Int}(d:1<=k/\k<=4){o:Ob}(f:o∈p.at k):YZ h k o.Z=fstL (Zv h) k+o.Z:=by
 obtain⟨a,n,m,g,_,_,j,_⟩:=t.ob d f;unfold YZ;rw[SY t.bd d (by grind [Tt])]
def Tld.cx(t:Tld h p){k:Int}(d:1<=k/\k<=4){o q:Ob}(f:o∈p.at k)(g:q∈p.at k)(e:q.Z=o.Z):q=o:=by
 rcases(t.ak k d).apart q g o f with a|a|a;exact a;have:=Yy.1 ((t.ak k d).ba q g).1.shape;omega;have:=Yy.1 ((t.ak k d).ba o f).1.shape;omega
def Tld.find(t:Tld h p){k:Int}(a:1<=k/\k<=4){o:Ob}(d:o∈p.at k):YG h k (p.at k) (fstL (Zv h) k+o.Z)=J o:=by
 rw[<-t.start a d];refine FX d λq f e=>t.cx a d f ?_;rw[t.start a d,t.start a f]at e;omega
theorem Tld.inj(t:Tld h p){k j:Int}(d:1<=k/\k<=4)(f:1<=j/\j<=4){o q:Ob}(g:o∈p.at k)(l:q∈p.at j)(e:ZP (Zv h) k o.Z=ZP (Zv h) j q.Z):k=j/\o=q:=by
 obtain⟨a,n,m,x,_,_,z,_⟩:=t.ob d g;obtain⟨b,B,A,y,_,_,w,_⟩:=t.ob f l;obtain⟨r,u⟩:=Z9b t.bd d f (by grind [Tt]) (by grind [Tt]) e;subst r;exact⟨rfl,t.cx d l g u⟩
def Tld.kw(t:Tld h p){k:Int}(d:1<=k/\k<=4){o:Ob}(f:o∈p.at k):adr (ZP (Zv h) k o.Z)=(fstL (Zv h) k+o.Z,0):=by
 obtain⟨a,n,m,g,_⟩:=t.ob d f;exact Ut t.bd Z0
def Tld.vc(t:Tld h p){k:Int}(d:1<=k/\k<=4){o:Ob}(f:o∈p.at k):ZP (Zv h) k o.Z≠0:=by
 obtain⟨a,n,m,g,_⟩:=t.ob d f;exact jh t.bd Z0
def Tld.mz(t:Tld h p){k:Int}(d:1<=k/\k<=4){w:Int}(f:(Vm.adr w).2=0):(YG h k (p.at k) (Vm.adr w).1).isSome=xk↔ ∃o∈p.at k,w=ZP (Zv h) k o.Z:=by
 rw[Ah];constructor;rintro⟨o,a,e⟩;rw[t.start d a]at e;exact⟨o,a,Z0n f e.symm⟩;rintro⟨o,a,rfl⟩;exact⟨o,a,by rw[t.kw d a,t.start d a]⟩
def Tld.dm(t:Tld h p){i j:Int}(g:1<=i/\i<=4)(l:1<=j/\j<=4){w:Int}:Xz h p w i j=xk↔Gos h p w i j:=by
 unfold Xz Gos;by_cases d:w=0;simp[d];by_cases a:(Vm.adr w).2=0;simp only[d,a,ZlB,ZkX,ZkD,Zk9,ZhB,false_or,t.mz g a,t.mz l a];simp;simp only[d,a,ZkX,Zkt,Bool.or_self,ZhF,false_or,false_iff];rintro⟨k,o,n,q,rfl⟩;have f:1<=k/\k<=4:=by obtain rfl|rfl:=n<;>assumption
 exact a (by rw[t.kw f q])
def PA:∀ {l:Z8} {a:Int} {i:Nat},XQ l xk a i=xk->∀w∈l,w=0
 | [],_,_,_,w,d=>by simp at d
 |y::l,a,i,f,w,d=>by
  simp only[XQ,Zhl]at f;obtain rfl|d:=ZhK.1 d;have g:=f.1;simp at g;exact g.1;exact PA f.2 w d
def Tld.ux(t:Tld h p){k:Int}(d:1<=k/\k<=4){o:Ob}(f:o∈p.at k){j:Nat}(x:(j:Int)<o.size):∃w,(Zw h k)[o.Z.toNat+1+j]?=J w/\(o.gone=xk->w=0):=by
 obtain⟨a,n,m,l,u,z,y,_⟩:=t.ob d f;have r:a+1+j< I (Zw h k):=Z0;refine⟨(Zw h k)[a+1+j],Zgm,λq=> ?_⟩;have g:=((t.ak k d).ba o f).1.gj;rw[q]at g;refine PA g _ ?_;rw[l,u,ZhA,ZhA];refine Zhq (i:=j) ?_;simp_all
end
structure Body (h:Hp) (p:Pts):Prop extends Tld h p where
 gone:∀k:Int,3<=k/\k<=4->∀o∈p.at k,o.gone=xk->∃q∈p.H,o.target=fstL (Zv h) 1+q.Z/\q.size=o.size/\q.M=o.M
 ptr:∀k:Int,1<=k/\k<=4->∀o∈p.at k,o.gone=xw->∀j:Nat,(j:Int)<o.M->∀w,(Zw h k)[o.Z.toNat+1+j]?=J w->Wi h p k (o.Z.toNat+1+j) w
 room:(I h.H:Int)+I h.ab+YF p<=h.cap
structure Rt (h:Hp) (p:Pts):Prop extends Body h p where
 fu:I h.E<=16
 gi:0<=h.aa
 dy:h.aa<=I h.H
 lj:h.Y=xk->h.aa<I h.H
 rest:h.Y=xw->h.aa=I h.H/\h.ah=[]/\h.al=[]
 ff:h.Y=xk->∀o∈p.H,US p (fstL (Zv h) 1+o.Z)=1
 E:∀w∈h.E,Gos h p w 1 2
section
variable {h:Hp}{p:Pts}
def EQ(t:Tld h p){k:Int}{i:Nat}{w:Int}(a:(Zw h k)[i]?=J w):Up h p k i=xk↔Wi h p k i w:=by
 unfold Up Wi;simp only[a,ZhP];split;exact t.dm Z0 Z0;split;rw[ZhB,t.dm Z0 Z0,t.dm Z0 Z0];exact t.dm Z0 Z0
theorem Z1k(k:Int)(i:Nat):Wi h p k i 0:=by
 unfold Wi;split;exact .inl rfl;split;exact .inl<|.inl rfl;exact .inl rfl
def Oh(t:Tld h p){k:Int}(g:1<=k/\k<=4):WJ h p k=xk↔ ∀o∈p.at k,o.gone=xw->∀j:Nat,(j:Int)<o.M->∀w,(Zw h k)[o.Z.toNat+1+j]?=J w->Wi h p k (o.Z.toNat+1+j) w:=by
 unfold WJ qv;simp only[Zhw,Zk3];constructor;intro l o d _ j q w f;exact(EQ t f).1 (l o d j Z0);intro l o d j q;obtain⟨a,n,m,r,y,x,u,_⟩:=t.ob g d;obtain⟨w,f,z⟩:=t.ux g d (j:=j) Z0;refine(EQ t f).2 ?_;grind [Z1k]
def RightH.vm(r:RightH h p):Tld h p:=⟨r.bd,λk a=>r.ak a⟩
def RightH.rt(r:RightH h p):Rt h p:=by
 have t:=r.vm;have j:=r.num;have a:=r.ok;unfold TT at j;unfold SD at a;simp only[Zhl,ZhS]at j a;obtain⟨⟨⟨⟨G,A⟩,B⟩,C⟩,H⟩:=j;obtain⟨⟨⟨⟨⟨⟨l,D⟩,K⟩,L⟩,M⟩,N⟩,F⟩:=a;have f:∀k:Int,1<=k/\k<=4->WJ h p k=xk:=λk d=>by
  have:k=1\/k=2\/k=3\/k=4:=Z0;grind
 refine⟨⟨t,λk d o a y=> ?_,λk d=>(Oh t d).1<|f k d,F⟩,A,B,C,λg=> ?_,λg=> ?_,λg o a=> ?_,λw z=> ?_⟩;obtain⟨q,n,e,u,x⟩:=r.nx d a y;exact⟨q,n,by rw[<-e,t.start (k:=1) Z0 n],u,x⟩;simp_all;simp_all;rw[g]at l;simp only[Zk8,ZkD,Zhw]at l;have:=l o a;unfold RJ at this;rw[t.start (k:=1) Z0 a]at this;simp_all;exact(t.dm Z0 Z0).1 (Zhw.1 D w z)
def Rt.fp(r:Rt h p):XE h=J p:=by
 have g:∀k:Int,3<=k/\k<=4->QX h p.H (p.at k):=λk j o l f=>by
  obtain⟨q,n,e,a,d⟩:=r.gone k j o l f;exact⟨q,by rw[e];exact r.toTld.find (k:=1) Z0 n,a,d⟩
 exact NW (r.ak 1 Z0) (r.ak 2 Z0) (r.ak 3 Z0) (r.ak 4 Z0) (g 3 Z0)<|g 4 Z0
theorem Rt.right(r:Rt h p):Yv h=xk:=by
 have t:=r.toTld;refine OU ?_ r.fp ?_;unfold TT;simp only[Zhl,ZhS];refine⟨⟨⟨⟨r.bd,r.fu⟩,r.gi⟩,r.dy⟩,?_⟩;cases a:h.Y;obtain⟨l,n,q⟩:=r.rest a;simp_all;simp[r.lj a];unfold SD;simp only[Zhl,ZhS];have d:=λk f=>(Oh t f).2<|r.ptr k f;refine⟨⟨⟨⟨⟨⟨?_,?_⟩,d 1 Z0⟩,d 2 Z0⟩,d 3 Z0⟩,d 4 Z0⟩,r.room⟩;cases a:h.Y;rfl;simp only[Zk8,ZkD,Zhw];intro o g;unfold RJ;rw[t.start (k:=1) Z0 g,ZhS];exact r.ff a o g;rw[Zhw];exactλw j=>(t.dm Z0 Z0).2<|r.E w j
def JR:Yv h=xk↔ ∃p,Rt h p:=
 ⟨λa=>by obtain⟨p,r⟩:=Z9s a;exact⟨p,r.rt⟩,λ⟨p,r⟩=>r.right⟩
def Rt.gq{q:Pts}(r:Rt h p)(s:Rt h q):q=p:=by
 have:=r.fp;rw[s.fp]at this;simp_all
def Rt.ul(r:Rt h p){k:Int}(a:1<=k/\k<=4):UJ h k=(p.at k,0):=by
 unfold UJ;rw[Zht ⟨r.right,a⟩,r.fp];rfl
def Rt.nr(r:Rt h p):RO h=YF p:=by
 unfold RO;rw[Zht r.right,r.fp];rfl
end
end
section
def WV(l:Zi):Nat:=(l.map λo=>1+o.size.toNat).sum
def Tiles.sum{ws:Z8}{old:Bool}:∀ {a:Nat} {l:Zi},Tiles ws old a l->a<=I ws->a+WV l=I ws
 |a,[],h,d=>by have:I ws<=a:=h;simp[WV];omega
 |a,o::l,h,d=>by
  have g:=Yy.1 h.2.1.shape;have f:=h.2.1.au;rw[h.1]at f;have:=Tiles.sum h.2.2 Z0;simp[WV]at this⊢;omega
def Tiles.km{ws:Z8}{old:Bool}{l:Zi}(h:Tiles ws old (I ws) l):l=[]:=by
 obtain _|⟨o,l⟩:=l;rfl;have d:=Yy.1 h.2.1.shape;have a:=h.2.1.au;rw[h.1]at a;omega
def Tiles.ug{ws d:Z8}{old:Bool}:∀ {a:Nat} {l j:Zi},Tiles ws old a l->Tiles d old a j->(∀i,i<I ws->d[i]?=ws[i]?)->I ws<=I d->
  (∀o∈l,∀q∈j,o.gone=xk->q.gone=xk->o.target=q.target->o.size=q.size/\o.M=q.M)->a<=I ws->∃r,j=l++r/\Tiles d old (I ws) r
 |a,[],j,h,k,_,_,_,t=>by
  have:I ws<=a:=h;grind
 |a,o::l,[],h,k,_,A,_,t=>by
  have H:=Yy.1 h.2.1.shape;have z:=h.2.1.au;have e:=h.1;have:I d<=a:=k;omega
 |a,o::l,q::j,h,k,B,A,G,t=>by
  obtain⟨p,n,C⟩:=h;obtain⟨k1,M,N⟩:=k;have H:=Yy.1 n.shape;have z:=n.au;obtain⟨w,g,D⟩:=n.word;obtain⟨u,f,F⟩:=M.word;rw[p]at g z;rw[k1]at f;simp only[ZhA]at g f;rw[B a Z0,g]at f;cases f;have e:o=q:=by
   obtain⟨S,T,op,O,W⟩:=o;obtain⟨X,Z,Y,P,qt⟩:=q;simp only at*;subst p k1;cases O<;>cases P<;>simp at D F
   simp_all;simp_all;simp_all;simp_all
  subst e;obtain⟨r,Q,R⟩:=Tiles.ug C N B A (λx K y L=>G x (.tail _ K) y<|.tail _ L) Z0;simp_all
def Tiles.gq{ws:Z8}{old:Bool}{l a:Zi}(h:Tiles ws old 0 l)(h':Tiles ws old 0 a)(g:∀o∈l,∀q∈a,o.gone=xk->q.gone=xk->o.target=q.target->o.size=q.size/\o.M=q.M):a=l:=by
 obtain⟨r,d,f⟩:=h.ug h' (λ_ _=>rfl) (Zhm _) g<|Zis _;rw[d,f.km,ZiE]
def Tiles.cw{ws:Z8}{a:Nat}{l:Zi}(h:Tiles ws xw a l):∀o∈l,o.gone=xw:=λo d=>by
 obtain⟨w,_,f⟩:=(h.ba o d).1.word;simp_all
def Tiles.tz{ws:Z8}{l d:Zi}(h:Tiles ws xw 0 l)(h':Tiles ws xw 0 d):d=l:=h.gq h' λo f q g a=>by rw[h.cw o f]at a;cases a
def B4(l:Zi):Nat:=(l.map λo=>if o.gone then 1+o.size.toNat else 0).sum
def Ej(l:Zi):Y1 l+B4 l=WV l:=by
 induction l with
 |nil=>rfl
 |cons o l a=>
  simp only[Y1,B4,WV,ZhR,Zla,Wh]at a⊢;cases o.gone<;>simp<;>omega
def Zb1{L:Zi}{f:Ob->Nat}(h:∀o∈L,f o=0):(L.map f).sum=0:=by
 induction L with
 |nil=>rfl
 |cons x L a=>simp_all
section
variable {h:Hp}{p:Pts}
def Tld.ik(t:Tld h p){o:Ob}(d:o∈p.H):0<=o.Z/\o.Z<I h.H:=by
 obtain⟨a,n,m,f,_,_,g,_⟩:=t.ob (k:=1) Z0 d;grind [Vo]
def Tiles.eh{ws:Z8}{old:Bool}:∀ {a:Nat} {l:Zi},Tiles ws old a l->l.Pairwise λx y=>x.Z<y.Z
 |_,[],_=>.nil
 |a,o::l,h=>by
  have f:=Yy.1 h.2.1.shape;refine .cons (λy d=> ?_)<|Tiles.eh h.2.2;have:=(Tiles.ba h.2.2 y d).2;rw[h.1];omega
def Tiles.nil{old:Bool}{l:Zi}(h:Tiles [] old 0 l):l=[]:=Tiles.km (ws:=[]) h
def Rt.empty(r:Rt h p)(hc:h.Y=xw):p.ah=[]/\p.al=[]:=by
 obtain⟨_,f,g⟩:=r.rest hc;have a:=r.ak 3 Z0;have d:=r.ak 4 Z0;simp only[CF,Lw,f,g]at a d;exact⟨a.nil,d.nil⟩
def Gos.vd(t:Tld h p){w i j:Int}(r:1<=i/\i<=4)(u:1<=j/\j<=4)(l:Gos h p w i j):w=0\/∃k,1<=k/\k<=4/\(k=i\/k=j)/\∃o∈p.at k,(adr w).2=0/\(adr w).1=fstL (Zv h) k+o.Z/\o.Z<YS (Zv h) k/\0<=o.Z:=by
 obtain rfl|⟨k,o,g,f,rfl⟩:=l;omega;have d:1<=k/\k<=4:=by obtain rfl|rfl:=g<;>assumption
 obtain⟨a,n,m,q,_,_,x,_⟩:=t.ob d f;exact .inr ⟨k,d.1,d.2,g,o,f,by rw[t.kw d f],by rw[t.kw d f],by grind [Tt],Z0⟩
end
end
section
section
variable {h:Hp}{p:Pts}
def Body.kj(r:Body h p){k:Int}(d:1<=k/\k<=2){o:Ob}(f:o∈p.at k):Vm.fwd h (ZP (Zv h) k o.Z)=(ZP (Zv h) k o.Z,h,0):=by
 obtain⟨a,n,m,g,_,_,j,_⟩:=r.toTld.ob Z0 f;exact Vm.fwd_here r.bd d ⟨Z0,Z0⟩
def Body.kh(r:Body h p){k:Int}(q:3<=k/\k<=4){o:Ob}(g:o∈p.at k)(l:o.gone=xk):Vm.fwd h (ZP (Zv h) k o.Z)=(2*o.target+1,h,0):=by
 obtain⟨a,n,m,f,_,_,t,_⟩:=r.toTld.ob Z0 g;obtain⟨u,j,d⟩:=((r.ak k Z0).ba o g).1.word;rw[Zht l]at d;rw[f,ZhA]at j;rw[f,Vm.fwd_gone r.bd q j d.2.1,Z0n d.2.1 d.2.2.symm]
def Body.gw(r:Body h p){k:Int}(t:3<=k/\k<=4){o:Ob}(f:o∈p.at k)(q:o.gone=xw){a n:Nat}(j:o.Z=a)(l:o.size=n):
  Vm.fwd h (ZP (Zv h) k o.Z)=(ZP (Zv h) 1<|I h.H,Yl h k a<|n+1,0)/\((n+1:Nat):Int)<=XY (Zv h):=by
 obtain⟨z,y,m,A,B,_,C,_⟩:=r.toTld.ob Z0 f;have:z=a:=Z0;subst this;have:y=n:=Z0;subst this;obtain⟨u,x,d⟩:=((r.ak k Z0).ba o f).1.word;rw[Zhs (by simp[q])]at d;rw[j,ZhA]at x;have D:=r.room;have g:=Zbr t f;unfold Wh at g;rw[q,l]at g;simp at g;have e:XY (Zv h)=h.cap-I h.H-I h.ab:=by unfold XY;rw[Zht r.bd];rfl
 have w:((y+1:Nat):Int)<=XY (Zv h):=Z0;rw[j];exact⟨Vm.fwd_wait r.bd t x (d.1<|Zlx Z0) (by rw[d.2.1,l]) C w,w⟩
end
def qj(h:Hp){k:Int}(d:3<=k/\k<=4)(a n:Nat):(Yl h k a n).H=h.H++((Zw h k).take<|a+n).drop a/\(Yl h k a n).ab=h.ab/\Zw (Yl h k a n) k=(zr (Zw h k) a n).set a (ZP (Zv h) 1<|I h.H)/\Zw (Yl h k a n) (7-k)=Zw h (7-k)/\
  (Yl h k a n).E=h.E/\(Yl h k a n).aa=h.aa/\(Yl h k a n).Y=h.Y/\(Yl h k a n).cap=h.cap/\(Yl h k a n).base=h.base/\(Yl h k a n).to=h.to:=by
 have:k=3\/k=4:=Z0;obtain rfl|rfl:=this<;>exact⟨rfl,rfl,rfl,rfl,rfl,rfl,rfl,rfl,rfl,rfl⟩
end
section
def CG{h:Hp}{k j:Int}(g:1<=k/\k<=4)(f:1<=j/\j<=4)(l:Z8):Zw (Xn h k l) j=if j=k then l else Zw h j:=by
 have a:k=1\/k=2\/k=3\/k=4:=Z0;have d:j=1\/j=2\/j=3\/j=4:=Z0;obtain rfl|rfl|rfl|rfl:=a<;>obtain rfl|rfl|rfl|rfl:=d<;>rfl
def ZO(b:Bt)(i:Nat):Nd:=(b.g.nodes[i]?).getD default
def ZD(b:Bt)(i:Nat):Pl:=(b.aw[i]?).getD ⟨0,0⟩
def Y8(b:Bt)(i:Nat):Pl:=(b.ah[i]?).getD ⟨0,0⟩
def KT(n:Nd):Int:=(Xu ((I n.M:Int)+I n.data)<|I n.M).1
def XU(b:Bt)(p:Pl)(n:Nd)(tw:Int):List Int:=KT n::(XP b p p.Z.toNat n.M tw++n.data)
def VU(b:Bt)(p:Pl)(n:Nd):List Int:=YJ b.h p::List.replicate (ZL n-1) 0
def YV(b:Bt)(x:Rw)(k:Int)(i:Nat):List Int:=
 if(ZD b i).part=k then XU b (ZD b i) (ZO b i)<|IntKind.i64.wrap<|x.bc+i
 else if(Y8 b i).part=k then(if(ZD b i).part=0 then XU b (Y8 b i) (ZO b i) 0 else VU b (ZD b i)<|ZO b i)
 else []
def X2(b:Bt)(x:Rw)(k:Int)(i:Nat):List Int:=(List.range i).flatMap<|YV b x k
theorem Ud(b:Bt)(x:Rw)(k:Int)(i:Nat):X2 b x k (i+1)=X2 b x k i++YV b x k i:=by
 simp_all[X2,ZjG,Zji]
theorem UG(b:Bt)(p:Pl)(n:Nd)(tw:Int):I (XU b p n tw)=ZL n:=by
 grind [XU,XP,ZL]
theorem Qj(b:Bt)(p:Pl)(n:Nd):I (VU b p n)=ZL n:=by
 grind [VU,ZL]
structure Placed (b:Bt) (x:Rw):Prop where
 ok:BOk b
 aw:∀i,i<I b.g.nodes->(ZD b i=⟨0,0⟩/\∃k:Int,(k=3\/k=4)/\(Y8 b i).part=k)\/(((ZD b i).part=1\/(ZD b i).part=2)/\(ZD b i).Z=(I (X2 b x (ZD b i).part i):Nat))
 ah:∀i,i<I b.g.nodes->Y8 b i=⟨0,0⟩\/(((Y8 b i).part=3\/(Y8 b i).part=4)/\(Y8 b i).Z=(I (X2 b x (Y8 b i).part i):Nat)/\(ZD b i).part≠2)
 zero:∀k:Int,1<=k/\k<=4->Zw b.h k=List.replicate (I<|X2 b x k<|I b.g.nodes) 0
section
variable {b d:Bt}{x:Rw}
def Df(a:Like b d)(p:Pl):YJ d.h p=YJ b.h p:=by
 unfold YJ;rw[a.bd]
theorem Zay(a:Like b d)(p:Pl)(to tw:Int):Vt d p to tw=Vt b p to tw:=by
 unfold Vt;rw[a.aw,a.ah,a.aa,Df a,Df a]
def IB(a:Like b d)(p:Pl)(n:Nd)(tw:Int):XU d p n tw=XU b p n tw:=by
 grind [XU,XP,Zay]
def BF{p:Pl}{a m:Nat}{n:Nd}{tw:Int}{F:Z8}(k:Zw d.h p.part=F++List.replicate m 0)(g:I F=a)(f:p.Z.toNat=a)(j:ZL n<=m):Sk d p a n tw=F++XU d p n tw++List.replicate (m-ZL n) 0:=by
 simp_all[Sk,List.replicate,ZL,ZkB,Zj1,XU,KT]
def Zae{F:Z8}{a m s:Nat}{w:Int}(d:I F=a)(h:1<=s)(g:s<=m):(F++List.replicate m (0:Int)).set a w=F++(w::List.replicate (s-1) 0)++List.replicate (m-s) 0:=by
 rw[<-d,Zlp _ _<|Zhm _,Zjg];obtain⟨m,rfl⟩:∃f,m=f+1:=⟨m-1,Z0⟩;rw[List.replicate_succ,ZjQ,Zi7];congr 1;simp;omega
def Kx(b:Bt)(x:Rw)(k:Int){i j:Nat}(h:i<=j):∃r,X2 b x k j=X2 b x k i++r:=by
 induction j with
 |zero=>simp_all
 |succ j d=>
  by_cases a:i=j+1;simp_all;grind [YV,Ud,List.append_assoc]
def A5(b:Bt)(x:Rw)(i:Nat)(d:Bt):Prop:=∀k:Int,1<=k/\k<=4->Zw d.h k=X2 b x k i++List.replicate (I (X2 b x k<|I b.g.nodes)- I (X2 b x k i)) 0
def Dl(b:Bt)(x:Rw)(k:Int){i:Nat}(a:i<I b.g.nodes):I (X2 b x k i)+I (YV b x k i)<=I (X2 b x k<|I b.g.nodes):=by
 obtain⟨r,d⟩:=Kx b x k (Z0:i+1<=I b.g.nodes);grind [Ud]
def Z3O(C:Placed b x){i:Nat}(G:i<I b.g.nodes)(z:Like b d)(w:A5 b x i d):A5 b x (i+1)<|Jc x d i:=by
 have T:(d.g.nodes[i]?).getD default=ZO b i:=by rw[z.g];rfl
 have X:(d.aw[i]?).getD ⟨0,0⟩=ZD b i:=by rw[z.aw];rfl
 have W:(d.ah[i]?).getD ⟨0,0⟩=Y8 b i:=by rw[z.ah];rfl
 unfold Jc;simp only[T,X,W];have Z:=C.aw i G;have Q:=C.ah i G;have r:=λk=>Dl b x k G;have j:∀k,YV b x k i=if(ZD b i).part=k then XU b (ZD b i) (ZO b i) (IntKind.i64.wrap<|x.bc+i)else if(Y8 b i).part=k then(if(ZD b i).part=0 then XU b (Y8 b i) (ZO b i) 0 else VU b (ZD b i)<|ZO b i)else []:=λk=>rfl
 have R:=UG b (ZD b i) (ZO b i)<|IntKind.i64.wrap<|x.bc+i;have l2:=UG b (Y8 b i) (ZO b i) 0;have l3:=Qj b (ZD b i)<|ZO b i;have O:=IB z (ZD b i) (ZO b i)<|IntKind.i64.wrap<|x.bc+i;have S:=IB z (Y8 b i) (ZO b i) 0;generalize ZD b i=p at*;generalize Y8 b i=o at*;generalize ZO b i=n at*;have N:1<=ZL n:=by unfold ZL;omega
 obtain⟨rfl,ko,a,P⟩|⟨hp,Y⟩:=Z
 ·
  have K:(o.part=3\/o.part=4)/\o.Z=(I (X2 b x o.part i):Nat):=by
   obtain rfl|⟨h1,h2,_⟩:=Q;grind;omega
  have D:Ux x d i n ⟨0,0⟩=d:=by unfold Ux;rw[Zhs Z1]
  have F:Uz d n ⟨0,0⟩ o=Wm d o n 0:=by unfold Uz;rw[Zht ⟨Z0,rfl⟩]
  have A:∀q,Uf q ⟨0,0⟩ o=q:=λq=>by simp_all[Uf,Zhs]
  rw[D,F,A];intro k t;have l:YV b x o.part i=XU b o n 0:=by rw[j,Zhs Zgl,Zht rfl,Zht rfl]
  have y:=r o.part;rw[l,l2]at y;unfold Wm;simp only;rw[CG Z0 t];by_cases a:k=o.part;rw[Zht a,a,BF (w o.part Z0) Z0 rfl Z0,Ud,l,S];grind;rw[Zhs a,Ud,j k,Zhs Zgl,Zhs (λh=>a h.symm),ZiE];exact w k t
 have L:¬p.part=0:=Z0;have D:Ux x d i n p=Wm d p n (IntKind.i64.wrap<|x.bc+i):=by unfold Ux;rw[Zht Z0]
 have F:∀q,Uz q n p o=q:=λq=>by simp_all[Uz,Zhs]
 rw[D,F];have B:YV b x p.part i=XU b p n (IntKind.i64.wrap<|x.bc+i):=by rw[j,Zht rfl]
 have M:=r p.part;rw[B,R]at M;have u:∀k:Int,1<=k/\k<=4->Zw (Wm d p n<|IntKind.i64.wrap<|x.bc+i).h k=if k=p.part then X2 b x p.part (i+1)++List.replicate (I (X2 b x p.part<|I b.g.nodes)- I (X2 b x p.part<|i+1)) 0 else Zw d.h k:=by
  intro k t;unfold Wm;simp only;rw[CG Z0 t];by_cases f:k=p.part;rw[Zht f,Zht f,BF (w p.part Z0) Z0 rfl Z0,Ud,B,O];grind;simp_all
 have H:YJ (Wm d p n<|IntKind.i64.wrap<|x.bc+i).h p=YJ b.h p:=by
  unfold YJ;have:Zv (Wm d p n<|IntKind.i64.wrap<|x.bc+i).h=Zv b.h:=by
   rw[<-z.bd];unfold Wm;simp only;refine Ef ?_;rw[BF (w p.part Z0) Z0 rfl Z0,w p.part Z0,O];simp[R];omega
  rw[this]
 generalize Wm d p n (IntKind.i64.wrap<|x.bc+i)=q at*;obtain rfl|⟨a0,K,a1⟩:=Q;have A:Uf q p ⟨0,0⟩=q:=by simp_all[Uf,Zhs]
 rw[A];intro k t;rw[u k t];by_cases f:k=p.part;simp_all;rw[Zhs f,Ud,j k,Zhs (λh=>f h.symm),Zhs Zgl,ZiE];exact w k t;have A:Uf q p o= {q with h:=Xn q.h o.part ((Zw q.h o.part).set o.Z.toNat<|YJ q.h p)}:=by unfold Uf;rw[Zht ⟨Z0,Z0⟩]
 rw[A];have l:YV b x o.part i=VU b p n:=by rw[j,Zhs Z0,Zht rfl,Zhs L]
 have y:=r o.part;rw[l,l3]at y;intro k t;simp only;rw[CG Z0 t,u o.part Z0,Zhs (Z0:¬o.part=p.part),w o.part Z0,H];by_cases a:k=o.part;rw[Zht a,a,Zae Z0 N Z0,Ud,l];grind [VU];rw[Zhs a,u k t];by_cases f:k=p.part;simp_all;rw[Zhs f,Ud,j k,Zhs (λh=>f h.symm),Zhs (λh=>a h.symm),ZiE];exact w k t
def GO(a:Placed b x):∀i,i<=I b.g.nodes->A5 b x i (Uy x b i)
 |0,_=>by
  intro k d;rw[Uy,a.zero k d];simp[X2]
 |i+1,f=>by
  rw[Uy];exact Z3O a Z0 (L6 a.ok i Z0)<|GO a i Z0
def GN(a:Placed b x){k:Int}(d:1<=k/\k<=4):Zw (Yx x b) k=X2 b x k (I b.g.nodes):=by
 have h:=GO a (I b.g.nodes) (Zhm _) k d;rw[Zjg,List.replicate_zero,ZiE]at h;rw[<-h];rfl
end
end
section
def Qk(x:Rw)(c:Bool)(g:Gr)(i:Nat):Pl:=if V9 x i c=0 then⟨2,(Y5 x c g i).n2⟩else if V9 x i c=1 then⟨1,(Y5 x c g i).n1⟩else⟨0,0⟩
def JG(x:Rw)(c:Bool)(g:Gr)(i:Nat):Pl:=if(decide (0<V9 x i c)&&c)=xk then(if WB x i then⟨4,(Y5 x c g i).n4⟩else⟨3,(Y5 x c g i).n3⟩)else⟨0,0⟩
def DK{x:Rw}{c:Bool}{g:Gr}(d:∀n∈g.nodes,ZL n<=9):∀j,j<=I g.nodes->∀i,i<j->(Y5 x c g j).aw[i]?=J (Qk x c g i)/\(Y5 x c g j).ah[i]?=J (JG x c g i)
 |0,_,i,f=>Z0
 |j+1,l,i,f=>by
  obtain⟨_,_,h,k⟩:=zg (x:=x) (cycle:=c) d j Z0;rw[Y5];simp only[X8];by_cases a:i<j;have:=DK (x:=x) (c:=c) d j Z0 i a;rw[ZhQ Z0,ZhQ Z0];exact this;have:i=j:=Z0;subst this;rw[ZhJ Z0,ZhJ Z0,h,k,Zjg];exact⟨rfl,rfl⟩
def nk(s:St8)(k:Int):Nat:=if k=1 then s.n1 else if k=2 then s.n2 else if k=3 then s.n3 else s.n4
section
variable {x:Rw}{c:Bool}
def DT(x:Rw):∀n∈(ZW x.nodes x.E).nodes,ZL n<=9:=λn d=>by
 obtain⟨_,_,a⟩:=BZ x.nodes x.E;have:=a n d;unfold ZL;omega
def RI(x:Rw)(c:Bool):(Yz x c).g=ZW x.nodes x.E:=rfl
def KU{i:Nat}(a:i< (ZW x.nodes x.E).nodes.length):ZD (Yz x c) i=Qk x c (ZW x.nodes x.E) i:=by
 unfold ZD;show((Y5 x c (ZW x.nodes x.E) (ZW x.nodes x.E).nodes.length).aw[i]?).getD _=_;rw[(DK (DT x) _ (Zhm _) i a).1];rfl
def qC{i:Nat}(a:i< (ZW x.nodes x.E).nodes.length):Y8 (Yz x c) i=JG x c (ZW x.nodes x.E) i:=by
 unfold Y8;show((Y5 x c (ZW x.nodes x.E) (ZW x.nodes x.E).nodes.length).ah[i]?).getD _=_;rw[(DK (DT x) _ (Zhm _) i a).2];rfl
def zU:∀i,i<=(ZW x.nodes x.E).nodes.length->∀k:Int,1<=k/\k<=4->I (X2 (Yz x c) x k i)=nk (Y5 x c (ZW x.nodes x.E) i) k
 |0,_,k,f=>by simp[X2,Y5,nk]
 |i+1,p,k,f=>by
  have o:=zU i Z0 k f;rw[Ud,Zi3,o];have l:ZO (Yz x c) i=((ZW x.nodes x.E).nodes[i]?).getD default:=rfl;unfold YV;rw[KU (Z0:i< (ZW x.nodes x.E).nodes.length),qC (Z0:i< (ZW x.nodes x.E).nodes.length),l,Y5];generalize ((ZW x.nodes x.E).nodes[i]?).getD default=n;have a:k=1\/k=2\/k=3\/k=4:=Z0;unfold Qk JG;generalize Y5 x c (ZW x.nodes x.E) i=s;obtain g|h|⟨j,rfl⟩:=R5 x i c;obtain rfl|rfl|rfl|rfl:=a<;>simp[nk,X8,g,UG];cases c<;>cases d:WB x i<;>obtain rfl|rfl|rfl|rfl:=a<;>simp[nk,X8,h,d,UG,Qj]
  cases d:WB x i<;>obtain rfl|rfl|rfl|rfl:=a<;>simp[nk,X8,j,d,UG,Qj]
def PH(hx:x.ok):Placed (Yz x c) x:=by
 refine⟨(zh hx c).1,λi a=> ?_,λi a=> ?_,λk g=> ?_⟩;rw[RI]at a;rw[KU a,qC a];have d:=λk g=>zU (x:=x) (c:=c) i Z0 k g;unfold Qk JG;obtain j|h|⟨f,rfl⟩:=R5 x i c;right;simp[j,d 2,nk];right;simp[h,d 1,nk];left;refine⟨by simp[f],?_⟩;cases n:WB x i;exact⟨3,.inl rfl,by simp[f]⟩;exact⟨4,.inr rfl,by simp[f]⟩;rw[RI]at a;rw[KU a,qC a];have d:=λk g=>zU (x:=x) (c:=c) i Z0 k g;unfold Qk JG;obtain j|h|⟨f,rfl⟩:=R5 x i c;left;simp[j];cases c;left;simp;right;cases n:WB x i;simp[h,d 3,nk];simp[h,d 4,nk];right;cases n:WB x i;simp[f,d 3,nk];simp[f,d 4,nk];rw[RI,zU _ (Zhm _) k g];have l:k=1\/k=2\/k=3\/k=4:=Z0;obtain rfl|rfl|rfl|rfl:=l<;>rfl
end
end
section
def Pu(h:Hp){k:Int}(d:1<=k/\k<=4):YS (Zv h) k=I (Zw h k):=by
 have a:k=1\/k=2\/k=3\/k=4:=Z0;obtain rfl|rfl|rfl|rfl:=a<;>rfl
def Zbg{s p:Int}(h:YC s p=xk):ZQ (Xu s p).1=(s,p,0):=by
 have a:=Yy.1 h;unfold Xu;rw[Zht h];unfold ZQ;grind
theorem Z5O(h:Hp)(p:Pl):VZ (YJ h p)=xk:=by
 unfold YJ VZ;split;rfl;unfold Xq;split;rfl;rename_i a;unfold adr;grind
theorem Z5P(b:Bt)(p:Pl)(to tw:Int):VZ (Vt b p to tw)=xk:=by
 unfold Vt;split;rfl;grind [Z5O]
def RH{gone:Bool}{ptrs:Int}:∀ {l:Z8} {i:Nat},(∀(j:Nat) (w:Int),l[j]?=J w->(gone=xk->w=0)/\(((i+j:Nat):Int)<ptrs->VZ w=xk))->XQ l gone ptrs i=xk
 | [],_,_=>rfl
 |w::l,i,h=>by
  obtain⟨f,g⟩:=h 0 w rfl;have d:XQ l gone ptrs (i+1)=xk:=RH λj y a=>by
   have:=h (j+1) y a;grind
  rw[XQ,d];grind
theorem PJ{b:Bt}{p:Pl}{n:Nd}{tw:Int}{F r:Z8}{old:Bool}(f:p.Z=(I F:Nat))(o:ZL n<=9):Stands (F++XU b p n tw++r) old ⟨p.Z,(I n.M:Int)+I n.data,I n.M,xw,0⟩:=by
 have a:YC ((I n.M:Int)+I n.data) (I n.M)=xk:=by
  unfold ZL at o;exact Yy.2 Z0
 have d:(F++XU b p n tw++r)[I F]?=J (KT n):=by
  rw[Zi7,ZhJ<|Zhm _,Zjg];rfl
 have t:=Zbg a;refine⟨Zgm,a,?_,?_,KT n,Zgm,?_⟩;grind [UG,ZL,List.length_append];simp only[f,ZhA];have e:((F++XU b p n tw++r).drop<|I F+1).take ((I n.M:Int)+I n.data).toNat=XP b p p.Z.toNat n.M tw++n.data:=by
  have k:((I n.M:Int)+I n.data).toNat=I (XP b p p.Z.toNat n.M tw++n.data):=by simp[XP];omega
  rw[k,Zi7,ZkB,Zj1 Z0,Zkh,Zic];have l:(XU b p n tw++r).drop 1=(XP b p p.Z.toNat n.M tw++n.data)++r:=rfl;rw[l,Zl3]
 rw[e];refine RH λj w d=>⟨Z1,λg=> ?_⟩;have h:j<I n.M:=Zhd;rw[ZhQ (by simp_all[XP])]at d;simp only[XP,ZhG,Zhk]at d;obtain⟨q,_,rfl⟩:=d;grind [Z5P];simp_all[ZhF,Zij,Fy,KT,trivial]
def ZaP{b:Bt}{p o:Pl}{n:Nd}{F r:Z8}(a:o.Z=(I F:Nat))(q:ZL n<=9)(l:(adr<|YJ b.h p).2=0):Stands (F++VU b p n++r) xk ⟨o.Z,(I n.M:Int)+I n.data,I n.M,xk,(adr<|YJ b.h p).1⟩:=by
 have d:YC ((I n.M:Int)+I n.data) (I n.M)=xk:=by
  unfold ZL at q;exact Yy.2 Z0
 have f:(F++VU b p n++r)[I F]?=J (YJ b.h p):=by
  rw[Zi7,ZhJ<|Zhm _,Zjg];rfl
 refine⟨by show 0<=o.Z;omega,d,?_,?_,_,by rw[a];simpa using f,?_⟩;have:=Qj b p n;unfold ZL at this;simp only[Zi3,this,a];omega;simp only[a,ZhA];have e:((F++VU b p n++r).drop<|I F+1).take ((I n.M:Int)+I n.data).toNat=List.replicate (ZL n-1) 0:=by
  have g:((I n.M:Int)+I n.data).toNat=I (List.replicate (ZL n-1) (0:Int)):=by simp[ZL];omega
  rw[g,Zi7,ZkB,Zj1 Z0,Zkh,Zic];have k:(VU b p n++r).drop 1=List.replicate (ZL n-1) 0++r:=rfl;rw[k,Zl3]
 rw[e];refine RH λj w f=> ?_;have:=(Zkf.1<|Zhq f).2;subst this;exact⟨λ_=>rfl,λ_=>rfl⟩;simp only[Zig];exact⟨trivial,l,trivial⟩
def Xg(b:Bt)(k:Int)(i:Nat):List Ob:=
 if(ZD b i).part=k then [⟨(ZD b i).Z,((ZO b i).M.length:Int)+(ZO b i).data.length,(ZO b i).M.length,xw,0⟩]
 else if(Y8 b i).part=k then(if(ZD b i).part=0 then [⟨(Y8 b i).Z,((ZO b i).M.length:Int)+(ZO b i).data.length,(ZO b i).M.length,xw,0⟩]
  else [⟨(Y8 b i).Z,((ZO b i).M.length:Int)+(ZO b i).data.length,(ZO b i).M.length,xk,(adr<|YJ b.h<|ZD b i).1⟩])
 else []
def obs(b:Bt)(k:Int):List Ob:=(List.range<|I b.g.nodes).flatMap<|Xg b k
section
variable {b:Bt}{x:Rw}
def Placed.su(a:Placed b x)(d:∀n∈b.g.nodes,ZL n<=9){i:Nat}(f:i<I b.g.nodes):ZL (ZO b i)<=9:=by
 simp_all[ZO,Zhi,ZhE]
def Placed.len(a:Placed b x){k:Int}(d:1<=k/\k<=4):YS (Zv b.h) k=(I (X2 b x k<|I b.g.nodes):Nat):=by
 rw[Pu b.h d,a.zero k d];simp
def Placed.ct(a:Placed b x){i:Nat}(f:i<I b.g.nodes)(k:(ZD b i).part≠0):((ZD b i).part=1\/(ZD b i).part=2)/\(ZD b i).Z=(I (X2 b x (ZD b i).part i):Nat)/\(ZD b i).Z+ZL (ZO b i)<=YS (Zv b.h) (ZD b i).part:=by
 obtain⟨h,_⟩|⟨j,d⟩:=a.aw i f;simp_all;refine⟨j,d,?_⟩;have:=Dl b x (ZD b i).part f;rw[a.len Z0,d];have e:YV b x (ZD b i).part i=XU b (ZD b i) (ZO b i) (IntKind.i64.wrap<|x.bc+i):=by unfold YV;rw[Zht rfl]
 grind [UG]
def Placed.di(a:Placed b x){i:Nat}(d:i<I b.g.nodes)(o:(Y8 b i).part≠0):((Y8 b i).part=3\/(Y8 b i).part=4)/\(Y8 b i).Z=(I (X2 b x (Y8 b i).part i):Nat)/\(ZD b i).part≠2/\(Y8 b i).Z+ZL (ZO b i)<=YS (Zv b.h) (Y8 b i).part:=by
 obtain h|⟨k,f,l⟩:=a.ah i d;simp_all;refine⟨k,f,l,?_⟩;have:=Dl b x (Y8 b i).part d;rw[a.len Z0,f];have n:(ZD b i).part=0\/(ZD b i).part=1:=by
  by_cases j:(ZD b i).part=0;omega;have:=(a.ct d j).1;omega
 have e:I (YV b x (Y8 b i).part i)=ZL (ZO b i):=by
  unfold YV;rw[Zhs Z0,Zht rfl];split;grind [UG];exact Qj _ _ _
 omega
def Placed.fw(a:Placed b x)(f:ZJ (Zv b.h)=xk){i:Nat}(j:i<I b.g.nodes)(d:(ZD b i).part≠0):YJ b.h (ZD b i)=ZP (Zv b.h) (ZD b i).part (ZD b i).Z:=by
 obtain⟨k,l,n⟩:=a.ct j d;have o:1<=ZL (ZO b i):=by grind [ZL]
 unfold YJ;rw[Zhs d,SY f Z0 ⟨Z0,Z0⟩];have:=WP f (ZD b i).part;unfold Xq ZP;grind
def Placed.ra(a:Placed b x)(f:ZJ (Zv b.h)=xk){i:Nat}(j:i<I b.g.nodes)(d:(Y8 b i).part≠0):YJ b.h (Y8 b i)=ZP (Zv b.h) (Y8 b i).part (Y8 b i).Z:=by
 obtain⟨k,l,_,n⟩:=a.di j d;have o:1<=ZL (ZO b i):=by grind [ZL]
 unfold YJ;rw[Zhs d,SY f Z0 ⟨Z0,Z0⟩];have:=WP f (Y8 b i).part;unfold Xq ZP;grind
def My(a:Placed b x)(z:ZJ (Zv b.h)=xk)(C:∀n∈b.g.nodes,ZL n<=9){k:Int}(F:1<=k/\k<=4):∀(m i:Nat),i+m=I b.g.nodes->Tiles (X2 b x k<|I b.g.nodes) (decide (2<k)) (I<|X2 b x k i) ((List.range' i m).flatMap<|Xg b k)
 |0,i,D=>by
  have:i=I b.g.nodes:=Z0;subst this;exact Zhm _
 |m+1,i,D=>by
  have t:=My a z C F m (i+1) Z0;have d:i<I b.g.nodes:=Z0;have w:=a.su C d;obtain⟨r,A⟩:=Kx b x k (Z0:i+1<=I b.g.nodes);rw[List.range'_succ,Zl6];have B:=Ud b x k i;by_cases f:(ZD b i).part=k;have u:YV b x k i=XU b (ZD b i) (ZO b i) (IntKind.i64.wrap<|x.bc+i):=by unfold YV;rw[Zht f]
  have q:Xg b k i=[⟨(ZD b i).Z,((ZO b i).M.length:Int)+(ZO b i).data.length,(ZO b i).M.length,xw,0⟩]:=by unfold Xg;rw[Zht f]
  obtain⟨_,j,_⟩:=a.ct d Z0;rw[f]at j;rw[q];refine⟨j,?_,?_⟩;grind [PJ];rw[B,u,Zi3,UG]at t;have:(((ZO b i).M.length:Int)+(ZO b i).data.length).toNat=ZL (ZO b i) -1:=by grind [ZL]
  simp only[this];rw[show I (X2 b x k i)+1+(ZL (ZO b i) -1)=I (X2 b x k i)+ZL (ZO b i)by grind [ZL]];exact t;by_cases l:(Y8 b i).part=k;obtain⟨G,j,H,K⟩:=a.di d Z0;have y:2<k:=Z0;rw[l]at j;have p:I (X2 b x k<|i+1)=I (X2 b x k i)+1+(((ZO b i).M.length:Int)+(ZO b i).data.length).toNat:=by
   have e:I (YV b x k i)=ZL (ZO b i):=by
    unfold YV;rw[Zhs f,Zht l];split;grind [UG];exact Qj _ _ _
   rw[B,Zi3,e];unfold ZL;omega
  rw[p]at t;by_cases o:(ZD b i).part=0;have u:YV b x k i=XU b (Y8 b i) (ZO b i) 0:=by unfold YV;rw[Zhs f,Zht l,Zht o]
  have q:Xg b k i=[⟨(Y8 b i).Z,((ZO b i).M.length:Int)+(ZO b i).data.length,(ZO b i).M.length,xw,0⟩]:=by unfold Xg;rw[Zhs f,Zht l,Zht o]
  rw[q];refine⟨j,?_,t⟩;grind [PJ];have u:YV b x k i=VU b (ZD b i) (ZO b i):=by unfold YV;rw[Zhs f,Zht l,Zhs o]
  have q:Xg b k i=[⟨(Y8 b i).Z,((ZO b i).M.length:Int)+(ZO b i).data.length,(ZO b i).M.length,xk,(adr<|YJ b.h<|ZD b i).1⟩]:=by unfold Xg;rw[Zhs f,Zht l,Zhs o]
  rw[q];refine⟨j,?_,t⟩;rw[A,B,u,Zlx y];refine ZaP j w ?_;obtain⟨L,M,_⟩:=a.ct d o;rw[a.fw z d o,Ut z Z0];simp_all[YV,Zhs,Xg,Zic,ZiE]
def Z7e(a:Placed b x)(j:ZJ (Zv b.h)=xk)(f:∀n∈b.g.nodes,ZL n<=9){k:Int}(d:1<=k/\k<=4):Tiles (Zw (Yx x b) k) (decide (2<k)) 0<|obs b k:=by
 rw[GN a d];have:=My a j f d (I b.g.nodes) 0 Z0;unfold obs;rw[List.range_eq_range'];exact this
def Jy{k:Int}{o:Ob}:o∈obs b k↔ ∃i,i<I b.g.nodes/\o∈Xg b k i:=by
 grind [obs]
end
end
section
def zf{gone:Bool}{ptrs:Int}:∀ {l:Z8} {i:Nat},XQ l gone ptrs i=xk->∀(j:Nat) (w:Int),l[j]?=J w->(gone=xk->w=0)/\(((i+j:Nat):Int)<ptrs->VZ w=xk)
 | [],_,_,j,w,a=>by simp at a
 |y::l,i,d,j,w,a=>by
  simp only[XQ,Zhl]at d;cases j with
  |zero=>
   simp at a;subst a;obtain⟨⟨f,g⟩,_⟩:=d;refine⟨λh=> ?_,λk=> ?_⟩;rw[h]at f;simpa using f;simpa[show(i:Int)<ptrs by omega]using g
  |succ j=>
   have:=zf d.2 j w Zh8;rw[show i+1+j=i+(j+1)by omega]at this;exact this
def Stands.congr{ws a:Z8}{old:Bool}{o:Ob}(s:Stands ws old o)(n:I a=I ws)(k:a[o.Z.toNat]?=ws[o.Z.toNat]?)
  (g:∀j:Nat,(j:Int)<o.size->a[o.Z.toNat+1+j]?=ws[o.Z.toNat+1+j]? \/(o.gone=xw/\o.M<=j)):Stands a old o:=by
 refine⟨s.iz,s.shape,by rw[n];exact s.au,RH λj w f=> ?_,by rw[k];exact s.word⟩;have d:j<o.size.toNat:=by
  have:=(Zhj.1 f).1;simp at this;omega
 rw[ZhY d,ZhM]at f;obtain g|⟨l,p⟩:=g j Z0;rw[g]at f;refine zf s.gj j w ?_;rw[ZhY d,ZhM];exact f;exact⟨λh=>(by rw[l]at h;cases h),λh=>Z0⟩
def Tiles.congr{ws d:Z8}{old:Bool}:∀ {a:Nat} {l:Zi},Tiles ws old a l->I d=I ws->(∀o∈l,Stands d old o)->Tiles d old a l
 |a,[],h,f,_=>by show I d<=a;rw[f];exact h
 |a,o::l,h,f,g=>⟨h.1,g o<|.head _,Tiles.congr h.2.2 f λx j=>g x<|.tail _ j⟩
section
variable {h g:Hp}{p:Pts}
def EE(a:Zv g=Zv h){w i j:Int}:Gos g p w i j↔Gos h p w i j:=by
 unfold Gos;rw[a]
def Tiles.place{ws:Z8}{old:Bool}:∀ {a:Nat} {l:Zi},Tiles ws old a l->∀ {i:Nat} {o:Ob},l[i]?=J o->o.Z=((a+WV (l.take i):Nat):Int)
 |_,[],_,i,o,d=>by simp at d
 |a,x::l,f,0,o,d=>by simp at d;subst d;rw[f.1];simp[WV]
 |a,x::l,f,i+1,o,d=>by
  have:=f.2.2.place (i:=i) (o:=o) Zgz;rw[this];simp[WV];omega
def Zb3{l:Zi}{i:Nat}{o:Ob}(a:l[i]?=J o):WV (l.take<|i+1)=WV (l.take i)+(1+o.size.toNat):=by
 unfold WV;rw[Zik,a,Ziv,ZkM];simp
end
end
section
def Z0G{ws a}:∀ {n j},j<n->a+n<=I ws->(zr ws a n)[a+j]?=J 0
 |0,_,h,_=>Z0
 |n+1,j,h,d=>by
  rw[zr];by_cases e:j=n;subst e;rw[Zix (by rw[jX];omega)];rw[Zin Z0];exact Z0G Z0 Z0
def Stands.app{ws r old o}(s:Stands ws old o):Stands (ws++r) old o:=by
 have k:=Yy.1 s.shape;have g:=s.au;have h:=s.iz;have f:(ws++r)[o.Z.toNat]?=ws[o.Z.toNat]? :=Zgl;refine⟨s.iz,s.shape,Zgn,RH λj w d=> ?_,by rw[f];exact s.word⟩;have a:j<o.size.toNat:=by
  have:=(Zhj.1 d).1;simp at this;omega
 rw[ZhY a,ZhM,ZhQ Z0]at d;refine zf s.gj j w ?_;simp_all
def Tiles.append{ws r old}:∀ {a} {l d:Zi},Tiles ws old a l->a<=I ws->Tiles (ws++r) old (I ws) d->Tiles (ws++r) old a (l++d)
 |a,[],d,h,g,f=>by
  have:I ws<=a:=h;have:a=I ws:=Z0;subst this;exact f
 |a,o::l,d,h,g,f=>by
  have k:=Yy.1 h.2.1.shape;have j:=h.2.1.au;have e:=h.1;exact⟨h.1,h.2.1.app,Tiles.append h.2.2 Z0 f⟩
theorem Tiles.map{ws d old f}(g:∀o,(f o).Z=o.Z/\(f o).size=o.size)(j:I d=I ws):∀ {a} {l:Zi},Tiles ws old a l->(∀o∈l,Stands d old<|f o)->Tiles d old a (l.map f)
 |a,[],h,_=>by show I d<=a;rw[j];exact h
 |a,o::l,h,k=>⟨by rw[(g o).1];exact h.1,k o<|.head _,by rw[(g o).2];exact Tiles.map g j h.2.2 λx n=>k x<|.tail _ n⟩
def Vb(a t:Int)(q:Ob):Ob:=if q.Z=a then {q with gone:=xk,target:=t}else q
theorem Jl a t q:(Vb a t q).Z=q.Z/\(Vb a t q).size=q.size/\(Vb a t q).M=q.M:=by
 unfold Vb;grind
theorem Tb{a t q}(h:q.Z≠a):Vb a t q=q:=Zhs h
theorem UE{a t q}(h:q.Z=a):Vb a t q= {q with gone:=xk,target:=t}:=Zht h
def Pts.mv(p:Pts)(k:Int)(o:Ob)(L:Nat)(t:Int):Pts:=⟨p.H++[⟨L,o.size,o.M,xw,0⟩],p.ab,if k=3 then p.ah.map (Vb o.Z t)else p.ah,if k=3 then p.al else p.al.map<|Vb o.Z t⟩
section
variable {h:Hp}{p:Pts}
def JA{k}(a:3<=k/\k<=4)o L t:(p.mv k o L t).at 1=p.H++[⟨L,o.size,o.M,xw,0⟩]/\(p.mv k o L t).at 2=p.ab/\(p.mv k o L t).at k=(p.at k).map (Vb o.Z t)/\(p.mv k o L t).at (7-k)=p.at (7-k):=by
 have:k=3\/k=4:=Z0;obtain rfl|rfl:=this<;>exact⟨rfl,rfl,rfl,rfl⟩
def Z6P{k}(d:3<=k/\k<=4){o L t j}(u:1<=j/\j<=4){q}(w:q∈p.at j):∃a∈(p.mv k o L t).at j,a.Z=q.Z/\a.size=q.size/\a.M=q.M/\(a.gone=xw->a=q)/\(j<3->a=q):=by
 let⟨h,l,n,r⟩:=JA (p:=p) d o L t;by_cases f:j=1;subst f;exact⟨q,Zgm,rfl,rfl,rfl,Z1,Z1⟩;by_cases g:j=2;subst g;exact⟨q,Zgm,rfl,rfl,rfl,Z1,Z1⟩;grind [Vb,List.mem_map_of_mem,Jl,UE,Tb]
def Z6O{g k}(f:3<=k/\k<=4){o L t}(r:∀j b,ZP (Zv g) j b=ZP (Zv h) j b){w i j}(x:1<=i/\i<=4)(y:1<=j/\j<=4)(d:Gos h p w i j):Gos g (p.mv k o L t) w i j:=by
 obtain rfl|⟨m,q,l,n,rfl⟩:=d;exact .inl rfl;let⟨u,a,e,_⟩:=Z6P (p:=p) f (o:=o) (L:=L) (t:=t) (j:=m) Z0 n;exact .inr ⟨m,u,l,a,by rw[r,e]⟩
def Z0A{l o t}(d:l.Pairwise λx y=>x.Z<y.Z)(a:o∈l)(h:o.gone=xw):Y1 (l.map<|Vb o.Z t)+(1+o.size.toNat)=Y1 l:=by
 induction l with
 |nil=>simp at a
 |cons x l g=>
  rw[ZkW]at d;simp only[Y1,ZhR]at g⊢;obtain rfl|a:=ZhK.1 a
  .have:l.map (Vb o.Z t)=l:=by
    conv=>rhs;rw[<-Zlz l]
    refine ZiM λy f=>Tb ?_;have:=d.1 y f;omega
   rw[UE rfl];grind [Wh]
  grind [Tb]
def Body.move(r:Body h p)(b6:h.aa<=I h.H){k}(G:3<=k/\k<=4){o}(P:o∈p.at k)(hg:o.gone=xw){a n:Nat}(ea:o.Z=a)(N:o.size=n):
  Body (Yl h k a<|n+1) (p.mv k o (I h.H)<|fstL (Zv h) 1+I h.H):=by
 obtain⟨B,D,m,a7,a9,em,K,b3,b2⟩:=r.toTld.ob (k:=k) Z0 P;have:B=a:=Z0;subst this;have:D=n:=Z0;subst this;obtain⟨_,hm⟩:=r.gw G P hg ea N;obtain⟨m1,m2,m3,m4,m5,m6,m7,m8,m9,b8⟩:=qj h G B<|D+1;have Z:=C3 G (g:=h) K;have mr:=Z6I r.bd G K hm;have hr:=Z9c G K;have hw:∀ {j:Int} {b:Nat},3<=j/\j<=4->(j≠k\/b<B\/B+(D+1)<=b)->(Zw (Yl h k B<|D+1) j)[b]?=(Zw h j)[b]? :=λC hb=>C5 G Z0 C hb;have O:∀ {j:Int},3<=j/\j<=4->I (Zw (Yl h k B<|D+1) j)=I (Zw h j):=λC=>C4 G C;have R:fstL (Zv<|Yl h k B<|D+1) 1=fstL (Zv h) 1:=by rw[Z];rfl
 have X:∀i,i<D+1->(((Zw h k).take<|B+(D+1)).drop B)[i]?=(Zw h k)[B+i]? :=Zgm;have a4:I (((Zw h k).take<|B+(D+1)).drop B)=D+1:=Zgn;obtain⟨e1,e2,e3,e4⟩:=JA (p:=p) G o (I h.H)<|fstL (Zv h) 1+I h.H;have H:=((r.ak k Z0).ba o P).1;obtain⟨u,hu,hc⟩:=H.word;rw[Zhs (by simp[hg])]at hc;rw[ea,ZhA]at hu;generalize b1:Yl h k B (D+1)=g at*;generalize a6:((Zw h k).take<|B+(D+1)).drop B=ws at*;have a1:∀q∈p.at k,q.Z≠o.Z->∀i:Nat,(i:Int)<=q.size->q.Z.toNat+i<B\/B+(D+1)<=q.Z.toNat+i:=by
  intro q d S i A;obtain⟨b,l,_,eb,el,_⟩:=r.toTld.ob (k:=k) Z0 d;rcases(r.ak k Z0).apart q d o P with e|e|e;simp_all;left;omega;omega
 have F:∀q∈p.at k,q.Z≠o.Z->∀i:Nat,(i:Int)<=q.size->(Zw g k)[q.Z.toNat+i]?=(Zw h k)[q.Z.toNat+i]? :=λq d S i A=>hw G<|.inr<|a1 q d S i A;have a0:∀b,(Zw g<|7-k)[b]?=(Zw h<|7-k)[b]? :=λb=>hw Z0 Z0;have T:Stands (h.H++ws) xw ⟨I h.H,o.size,o.M,xw,0⟩:=by
  refine⟨Z1,H.shape,Zgn,RH λj w C=>⟨Z1,λW=> ?_⟩,u,?_,?_⟩;have L:j<D:=by
   have:=(Zhj.1 C).1;simp[N]at this;omega
  simp only[N,ZhA]at C;rw[ZhY L,ZhM,ZhJ Z0,show I h.H+1+j-I h.H=1+j by omega,X _ Z0]at C;refine(zf H.gj j w ?_).2 W;rw[ea,N,ZhA,ZhA,ZhY L,ZhM,<-C,Ziw];simp only[ZhA];grind;grind
 have a5:=WP r.bd 1;refine⟨⟨mr,λj C=> ?_⟩,λj C q d z=> ?_,λj C q d z i A w f=> ?_,?_⟩;by_cases j1:j=1;subst j1;rw[e1];simp only[Vo,m1];exact(r.ak 1 Z0).append Z0 ⟨rfl,T,by show I (h.H++ws)<=_;simp[N,a4];omega⟩;by_cases j2:j=2;subst j2;rw[e2];simp only[qQ,m2];exact r.ak 2 Z0;by_cases Y:j=k;subst Y;rw[e3];refine(r.ak j Z0).map (λq=>⟨(Jl _ _ q).1,(Jl _ _ q).2.1⟩) (O G) λq d=> ?_;by_cases e:q.Z=o.Z;have:q=o:=r.toTld.cx Z0 P d e;subst this;rw[UE rfl];refine⟨H.iz,H.shape,Zgl,RH λi w A=> ?_,ZP (Zv h) 1<|I h.H,?_,?_⟩;have L:i<D:=by
  have:=(Zhj.1 A).1;simp[N]at this;omega
 simp only[ea,N,ZhA]at A;rw[ZhY L,ZhM,m3,Zin Z0,Ziw,Z0G Z0 K]at A;cases A;exact⟨Z0,λ_=>rfl⟩;grind [Int.toNat_natCast,List.getElem?_set_self,jX];simp only[Zig];rw[Ut r.bd Z0];grind;rw[Tb e];refine((r.ak j Z0).ba q d).1.congr (O G) (by simpa using F q d e 0 (by have:=Yy.1 ((r.ak j Z0).ba q d).1.shape;omega)) λi A=>.inl ?_;rw[Ziw];exact F q d e (1+i) Z0;have:j=7-k:=Z0;subst this;rw[e4,m4];exact r.ak (7-k) Z0;by_cases Y:j=k;subst Y;rw[e3,ZhC]at d;obtain⟨x,Q,rfl⟩:=d;by_cases e:x.Z=o.Z;have:x=o:=r.toTld.cx Z0 P Q e;subst this;rw[UE rfl];exact⟨_,Zju _<|.head _,by rw[R],rfl,rfl⟩;rw[Tb e]at z⊢;obtain⟨y,hy,y1,y2,y3⟩:=r.gone j C x Q z;exact⟨y,ZiA _ hy,Z0,y2,y3⟩;have:j=7-k:=Z0;subst this;rw[e4]at d;obtain⟨y,hy,y1,y2,y3⟩:=r.gone _ C q d z;exact⟨y,ZiA _ hy,Z0,y2,y3⟩;have b0:∀ {w i j:Int},1<=i/\i<=4->1<=j/\j<=4->Gos h p w i j->Gos g (p.mv k o (I h.H)<|fstL (Zv h) 1+I h.H) w i j:=λA C=>Z6O G hr A C;have M:∀ {j:Int} {i:Nat} {w:Int},Wi h p j i w->Wi g (p.mv k o (I h.H)<|fstL (Zv h) 1+I h.H) j i w:=λ{j i w} W=>by
  unfold Wi at W⊢;rw[m6];by_cases c1:2<j;grind;rw[Zhs c1]at W⊢;by_cases c2:j=1/\h.aa<=i;grind;rw[Zhs c2]at W⊢;grind
 by_cases j1:j=1;subst j1;rw[e1]at d;obtain d|d:=ZhO.1 d;obtain⟨b,l,l',eb,el,a8,a2,_⟩:=r.toTld.ob (k:=1) Z0 d;simp only[Vo]at a2 f;rw[m1,ZhQ Z0]at f;exact M<|r.ptr 1 Z0 q d z i A w f;simp at d;subst d;simp only at A f⊢;simp only[ZhA,Vo,m1]at f⊢;rw[ZhJ Z0,show I h.H+1+i-I h.H=1+i by omega,X _ Z0]at f;have:=r.ptr k Z0 o P hg i A w (by grind [Int.toNat_natCast,Nat.add_assoc]);unfold Wi at this⊢;rw[Zht Z0]at this;rw[Zhs Z0,Zht ⟨rfl,Z0⟩];grind;by_cases j2:j=2;subst j2;rw[e2]at d;simp only[qQ,m2]at f;exact M<|r.ptr 2 Z0 q d z i A w f;by_cases Y:j=k;subst Y;rw[e3,ZhC]at d;obtain⟨x,Q,rfl⟩:=d;by_cases e:x.Z=o.Z;grind [UE];rw[Tb e]at z A f⊢;have b4:=(Yy.1 ((r.ak j Z0).ba x Q).1.shape).2.2.2;rw[Ziw,F x Q e (1+i) Z0,<-Ziw]at f;exact M<|r.ptr j C x Q z i A w f;have:j=7-k:=Z0;subst this;rw[e4]at d;rw[m4]at f;exact M<|r.ptr _ C q d z i A w f;have b5:=r.room;have b7:YF (p.mv k o (I h.H)<|fstL (Zv h) 1+I h.H)+(1+D)=YF p:=by
  have h1:=(r.ak k Z0).eh;have:=Z0A (t:=fstL (Zv h) 1+I h.H) h1 P hg;rw[N,ZhA]at this;unfold YF;have a3:k=3\/k=4:=Z0;obtain rfl|rfl:=a3;simp only[Pts.lg]at this;simp only[Pts.mv,Zig];omega;simp only[Pts.lh]at this;simp only[Pts.mv,show ¬(4:Int)=3 by omega,Zij];omega
 grind
end
end
section
def Ty(h:Hp)(p:Pts):Prop:=∀o∈p.H,US p (fstL (Zv h) 1+o.Z)=1
section
variable {h g:Hp}{p q:Pts}
def Zb7{l o t b}(d:l.Pairwise λx y=>x.Z<y.Z)(a:o∈l)(g:o.gone=xw):X9 (l.map<|Vb o.Z t) b=X9 l b+if t=b then 1 else 0:=by
 induction l with
 |nil=>simp at a
 |cons x l h=>
  rw[ZkW]at d;have e:∀y r,X9 (y::r) b=(if y.gone=xk/\y.target=b then 1 else 0)+X9 r b:=λy r=>by
   unfold X9;grind
  rw[ZhR,e];obtain rfl|a:=ZhK.1 a
  .have:l.map (Vb o.Z t)=l:=by
    conv=>rhs;rw[<-Zlz l]
    refine ZiM λy f=>Tb ?_;have:=d.1 y f;omega
   rw[UE rfl];grind
  grind [Tb]
def Zb8(r:Body h p){b:Int}(n:I h.H<=b):US p (fstL (Zv h) 1+b)=0:=by
 have key:∀k,3<=k/\k<=4->X9 (p.at k) (fstL (Zv h) 1+b)=0:=λk d=>by
  unfold X9;rw[Zje,Zko];intro o f a;simp[ZhS]at a;let⟨y,g,e,_⟩:=r.gone k d o f a.1;have:=r.toTld.ik g;omega
 have j:=key 3 Z0;have l:=key 4 Z0;simp_all[Pts.lg,Pts.lh,US]
def Zb5(r:Body h p){k}(j:3<=k/\k<=4){o}(g:o∈p.at k)(f:o.gone=xw){L t b}:US (p.mv k o L t) b=US p b+if t=b then 1 else 0:=by
 have d:=Zb7 (t:=t) (b:=b) (r.ak k Z0).eh g f;unfold US;have a:k=3\/k=4:=Z0;obtain rfl|rfl:=a;simp[Pts.lg]at d;simp[Pts.mv];omega;simp[Pts.lh]at d;simp[Pts.mv,Zij];omega
structure Ext (h:Hp) (p:Pts) (g:Hp) (q:Pts):Prop where
 H:∃ws,g.H=h.H++ws
 ab:g.ab=h.ab
 base:g.base=h.base
 cap:g.cap=h.cap
 si:g.to=h.to
 Y:g.Y=h.Y
 aa:g.aa=h.aa
 E:g.E=h.E
 sw:I g.ah=I h.ah
 ox:I g.al=I h.al
 ig:∃r,q.H=p.H++r
 ie:q.ab=p.ab
 is:∀k:Int,3<=k/\k<=4->(q.at k).map (λo=>(o.Z,o.size,o.M))=(p.at k).map (λo=>(o.Z,o.size,o.M))
 gone:∀k:Int,3<=k/\k<=4->∀(i:Nat) (o o':Ob),(p.at k)[i]?=J o->(q.at k)[i]?=J o'->(o.gone=xk->o'=o)/\(o'.gone=xw->o'=o/\∀j:Nat,(j:Int)<=o.size->(Zw g k)[o.Z.toNat+j]?=(Zw h k)[o.Z.toNat+j]?)
 room:(I g.H:Int)+YF q=I h.H+YF p
def Ext.refl h p:Ext h p h p:=
 ⟨⟨[],Z1⟩,rfl,rfl,rfl,rfl,rfl,rfl,rfl,rfl,rfl,⟨[],Z1⟩,rfl,Z1,Zgm,rfl⟩
theorem Ext.trans{f s}(a:Ext h p g q)(b:Ext g q f s):Ext h p f s:=by
 let⟨w1,y⟩:=a.H;let⟨w2,z⟩:=b.H;let⟨H,A⟩:=a.ig;let⟨K,B⟩:=b.ig;refine⟨Zgm,b.ab.trans a.ab,b.base.trans a.base,b.cap.trans a.cap,b.si.trans a.si,b.Y.trans a.Y,b.aa.trans a.aa,b.E.trans a.E,b.sw.trans a.sw,b.ox.trans a.ox,Zgm,b.ie.trans a.ie,λk d=>(b.is k d).trans<|a.is k d,λk d i o n r w=> ?_,b.room.trans a.room⟩;have D:I (q.at k)=I (p.at k):=by have:=Zit List.length<|a.is k d;simpa using this
 have C:=(Zhj.1 r).1;have l:(q.at k)[i]?=J ((q.at k)[i]'Z0):=Z1;generalize (q.at k)[i]'Z0=t at l;let⟨u,c2⟩:=a.gone k d i o t r l;let⟨d1,d2⟩:=b.gone k d i t n l w;refine⟨λj=> ?_,λj=> ?_⟩;have:=u j;subst this;exact d1 j;let⟨k1,F⟩:=d2 j;subst k1;let⟨x,G⟩:=c2 j;subst x;exact⟨rfl,Zgm⟩
def Ext.fst(e:Ext h p g q)k a(d:k=1\/k=3\/k=4\/k=2):ZP (Zv g) k a=ZP (Zv h) k a:=by
 unfold ZP fstL Zv;simp[e.base,e.cap,e.si,e.ab,e.ox]
def Ext.mem(e:Ext h p g q){j}(l:1<=j/\j<=4){o}(f:o∈p.at j):∃a∈q.at j,a.Z=o.Z/\a.size=o.size/\a.M=o.M:=by
 have d:j=1\/j=2\/j=3\/j=4:=Z0;obtain rfl|rfl|k:=d;let⟨r,n⟩:=e.ig;exact⟨o,Zgm,rfl,rfl,rfl⟩;exact⟨o,by show o∈q.ab;rw[e.ie];exact f,rfl,rfl,rfl⟩;have:=e.is j Z0;grind [List.mem_map_of_mem]
def Ext.kz(e:Ext h p g q){w i j}(t:1<=i/\i<=4)(u:1<=j/\j<=4)(l:Gos h p w i j):Gos g q w i j:=by
 obtain rfl|⟨m,o,f,n,rfl⟩:=l;exact .inl rfl;have a:1<=m/\m<=4:=by obtain rfl|rfl:=f<;>assumption
 let⟨r,d,k,_⟩:=e.mem a n;exact .inr ⟨m,r,f,d,by rw[e.fst _ _ Z0,k]⟩
theorem Body.ext(r:Body h p)(S:h.aa<=I h.H){k}(f:3<=k/\k<=4){o}(q:o∈p.at k)(P:o.gone=xw){a n:Nat}(ea:o.Z=a)(en:o.size=n):
  Ext h p (Yl h k a<|n+1) (p.mv k o (I h.H)<|fstL (Zv h) 1+I h.H):=by
 let⟨u,B,m,N,O,em,y,R,Q⟩:=r.toTld.ob (k:=k) Z0 q;have:u=a:=Z0;subst this;have:B=n:=Z0;subst this;let⟨W,X,m3,m4,Y,Z,m7,m8,m9,A⟩:=qj h f u<|B+1;let⟨K,L,M,e4⟩:=JA (p:=p) f o (I h.H)<|fstL (Zv h) 1+I h.H;have T:(Yl h k u<|B+1).al.length=I h.al:=C4 (j:=4) f Z0;refine⟨⟨_,W⟩,X,m9,m8,A,m7,Z,Y,C4 (j:=3) f Z0,T,⟨_,K⟩,L,λj D=> ?_,λj D i x x' g w=> ?_,?_⟩;by_cases H:j=k;simp_all[Zjt,ZiM,Jl,fstL,Zv,Function.comp];have:j=7-k:=Z0;simp_all;by_cases H:j=k;subst H;rw[M,ZhG,g]at w;simp at w;subst w;have d:=Zhq g;by_cases e:x.Z=o.Z;have:=r.toTld.cx Z0 q d e;subst this;rw[UE rfl];exact⟨Zgm,Z1⟩;rw[Tb e];refine⟨Z1,λ_=>⟨rfl,λi hi=>C5 f Z0 D<|.inr ?_⟩⟩;let⟨b,l,_,eb,el,_⟩:=r.toTld.ob (k:=j) Z0 d;rcases(r.ak j Z0).apart x d o q with C|C|C;simp_all;left;omega;omega;have:j=7-k:=Z0;simp_all;have g:=(r.ak k Z0).eh;have G:=Z0A (t:=fstL (Zv h) 1+I h.H) g q P;have F:=Z6H f y;unfold YF;have z:k=3\/k=4:=Z0;obtain rfl|rfl:=z;simp[Pts.lg]at G;simp[Pts.mv,Zig];omega;simp[Pts.lh]at G;simp[Pts.mv,show ¬(4:Int)=3 by omega,Zij];omega
def MF(r:Body h p)(f:Ty h p)(g:h.aa<=I h.H){k}(l:3<=k/\k<=4){o}(q:o∈p.at k)(j:o.gone=xw){a n:Nat}(t:o.Z=a)(u:o.size=n):
  Ty (Yl h k a<|n+1) (p.mv k o (I h.H)<|fstL (Zv h) 1+I h.H):=by
 have w:fstL (Zv<|Yl h k a<|n+1) 1=fstL (Zv h) 1:=by
  have:=(r.ext g l q j t u).fst 1 0 Z0;unfold ZP at this;omega
 intro x d;rw[Zb5 r l q j,w];obtain d|d:=ZhO.1 d;have:=r.toTld.ik d;rw[f x d,Zhs Z0];simp_all[Zb8,Int.le_refl]
def Res(g:Hp)(q:Pts)(w v:Int):Prop:=(w=0/\v=0)\/∃k o,(k=3\/k=4)/\o∈q.at k/\w=ZP (Zv g) k o.Z/\o.gone=xk/\v=2*o.target+1
theorem Res.ext{w v}(r:Res h p w v)(e:Ext h p g q):Res g q w v:=by
 obtain r|⟨k,o,t,u,f,a,j⟩:=r;exact .inl r;let⟨i,d⟩:=ZhI u;have x:I (q.at k)=I (p.at k):=by have:=Zit List.length<|e.is k Z0;simpa using this
 have n:=(Zhj.1 d).1;have l:(q.at k)[i]?=J ((q.at k)[i]'Z0):=Z1;have:=(e.gone k Z0 i o _ d l).1 a;exact .inr ⟨k,o,t,Zgl,by rw[e.fst _ _ Z0];exact f,a,j⟩
def Zb6{l a o d}(f:o∈l)(j:d∈l)(k:o≠d)(g:o.gone=xk/\o.target=a)(h:d.gone=xk/\d.target=a):2<=X9 l a:=by
 have e:∀y r,X9 (y::r) a=(if y.gone=xk/\y.target=a then 1 else 0)+X9 r a:=λy r=>by
  unfold X9;grind
 have one:∀ {l} {o:Ob},o∈l->o.gone=xk/\o.target=a->1<=X9 l a:=λ{l o} f g=>by
  exact Zjk.2<|List.ne_nil_of_mem<|ZjE.2 ⟨f,by simp[g]⟩
 induction l with
 |nil=>simp at f
 |cons x l n=>
  grind
theorem Res.inj(r:Body h p)(q:Ty h p){w w' v}(a:Res h p w v)(b:Res h p w' v):w=w':=by
 have nz:∀ {k} {o:Ob},(k=3\/k=4)->o∈p.at k->o.gone=xk->∃y∈p.H,o.target=fstL (Zv h) 1+y.Z:=λg j B=>by
  let⟨y,D,e,_⟩:=r.gone _ Z0 _ j B;grind
 obtain⟨rfl,rfl⟩|⟨k,o,g,j,M,z,N⟩:=a;obtain⟨rfl,_⟩|⟨F,u,d,f,G,A,H⟩:=b;rfl;omega;obtain⟨rfl,rfl⟩|⟨F,u,d,f,G,A,H⟩:=b;omega;have C:u.target=o.target:=Z0;let⟨y,D,e⟩:=nz g j z;have K:=q y D;unfold US at K;by_cases n:k=F;subst n;by_cases t:o=u;simp_all;have:=Zb6 j f t ⟨z,rfl⟩ ⟨A,C⟩;obtain rfl|rfl:=g;grind [Pts.lg];grind [Pts.lh];have one:∀ {l} {x:Ob} {a:Int},x∈l->x.gone=xk->x.target=a->1<=X9 l a:=λ{l x a} L B C=>by
  exact Zjk.2<|List.ne_nil_of_mem<|ZjE.2 ⟨L,Zgl⟩
 obtain rfl|rfl:=g<;>obtain rfl|rfl:=d
 omega;grind [Pts.lg,Pts.lh];grind [Pts.lg,Pts.lh];omega
structure FwdTo (h:Hp) (p:Pts) (w v:Int) (g:Hp) (q:Pts):Prop where
 fwd:fwd h w=(v,g,0)
 body:Body g q
 ff:Ty h p->Ty g q
 ext:Ext h p g q
 vl:Gos g q v 1 2
 zero:v=0↔w=0
 ei:(Gos h p w 1 2/\v=w/\g=h/\q=p)\/Res g q w v
 uj:(g=h/\q=p)\/∃(k:Int) (o:Ob) (a n:Nat),(3<=k/\k<=4)/\o∈p.at k/\o.gone=xw/\o.Z=a/\o.size=n/\g=Yl h k a (n+1)/\q=p.mv k o (I h.H) (fstL (Zv h) 1+I h.H)/\v=ZP (Zv h) 1 (I h.H)
def Body.fm(r:Body h p)(l:h.aa<=I h.H){w}(L:Gos h p w 1 2\/Gos h p w 3 4):∃v g q,FwdTo h p w v g q:=by
 by_cases C:w=0;subst C;exact⟨0,h,p,Hl r.bd,r,id,.refl h p,.inl rfl,Z1,.inr<|.inl ⟨rfl,rfl⟩,Z1⟩;have B:∃k o,1<=k/\k<=4/\o∈p.at k/\w=ZP (Zv h) k o.Z:=by
  obtain(F|⟨k,o,f,d,e⟩)|(F|⟨k,o,f,d,e⟩):=L;omega;grind;omega;grind
 obtain⟨k,o,k1,N,d,rfl⟩:=B;by_cases G:k<=2;exact⟨_,h,p,r.kj ⟨k1,G⟩ d,r,id,.refl h p,.inr ⟨k,o,Z0,d,rfl⟩,Zjd,.inl ⟨.inr ⟨k,o,Z0,d,rfl⟩,rfl,rfl,rfl⟩,Z1⟩;have f:3<=k/\k<=4:=Z0;cases j:o.gone;let⟨a,n,m,t,u,em,H,_⟩:=r.toTld.ob ⟨k1,N⟩ d;let⟨D,_⟩:=r.gw f d j t u;have e:=r.ext l f d j t u;have b:=r.move l f d j t u;have x:(⟨I h.H,o.size,o.M,xw,0⟩:Ob)∈(p.mv k o (I h.H)<|fstL (Zv h) 1+I h.H).H:=Zju _<|.head _;have A:ZP _ 1 (I h.H)=ZP _ 1 (I h.H):=(e.fst 1 _ Z0).symm;exact⟨_,_,_,D,b,λz=>MF r z l f d j t u,e,.inr ⟨1,_,.inl rfl,x,A⟩,iff_of_false (jh r.bd Z0) C,.inr<|.inr ⟨k,_,Z0,by rw[(JA f o _ _).2.2.1];exact Zj3 d,by rw[e.fst _ _ Z0,(Jl _ _ _).1],by rw[UE rfl],by rw[UE rfl];rfl⟩,.inr ⟨k,o,a,n,f,d,j,t,u,rfl,rfl,rfl⟩⟩;let⟨y,M,e,_⟩:=r.gone k f o d j;have K:2*o.target+1=ZP (Zv h) 1 y.Z:=by unfold ZP;omega
 refine⟨_,h,p,r.kh f d j,r,id,.refl h p,.inr ⟨1,y,.inl rfl,M,K⟩,?_,.inr<|.inr ⟨k,o,Z0,d,rfl,j,rfl⟩,Z1⟩;omega
end
end
section
def YO(h:Hp):Hp:=⟨h.base,h.cap,1-h.to,xw,0,[],[],h.H,h.ab,h.E⟩
def Se(g:Hp)(i:Nat):Hp:= {(fwd g<|(g.E[i]?).getD 0).2.1 with E:=(fwd g<|(g.E[i]?).getD 0).2.1.E.set i (fwd g<|(g.E[i]?).getD 0).1}
def Xk(g:Hp):Nat->Hp
 |0=>g
 |i+1=>Se (Xk g i) i
def WF(g:Hp):Hp:=if 0<(I g.H) then {g with Y:=xk}else {g with Y:=xw,ah:=[],al:=[]}
def YT(h:Hp):Hp:=WF<|Xk (YO h)<|I h.E
def Sd(h:Hp):Hp×Int:=if Yv h=xw then(Hp.zero,1)else if h.Y then(Hp.zero,10)else(YT h,0)
def Stands.ah{ws:Z8}{o:Ob}(s:Stands ws xw o):Stands ws xk o:=by
 obtain⟨w,f,a⟩:=s.word;have d:o.gone=xw:=by
  cases d:o.gone;rfl;rw[Zht d]at a;cases a.1
 refine⟨s.iz,s.shape,s.au,s.gj,w,f,?_⟩;rw[Zhs (by simp[d])]at a⊢;exact⟨λ_=>Fy (by rw[a.2.1]),a.2⟩
def Tiles.ah{ws:Z8}:∀ {a:Nat} {l:Zi},Tiles ws xw a l->Tiles ws xk a l
 |_,[],h=>h
 |_,_::_,h=>⟨h.1,h.2.1.ah,Tiles.ah h.2.2⟩
def Z0z{l:Zi}(h:∀o∈l,o.gone=xw):Y1 l=WV l:=by
 have:=Ej l;have:B4 l=0:=Zb1 λo a=>by rw[h o a];rfl
 omega
def TM(p:Pts):Pts:=⟨[],[],p.H,p.ab⟩
section
variable {h:Hp}{p:Pts}
def AW(h:Hp)(k a:Int)(d:k=1\/k=2):ZP (Zv<|YO h) (k+2) a=ZP (Zv h) k a:=by
 obtain rfl|rfl:=d;show 2*(h.base+(1- (1-h.to))*h.cap+a)+1=2*(h.base+h.to*h.cap+a)+1;rw[show 1- (1-h.to)=h.to by omega];show 2*(h.base+(1- (1-h.to))*h.cap+(h.cap-I h.ab)+a)+1=2*(h.base+h.to*h.cap+(h.cap-I h.ab)+a)+1;rw[show 1- (1-h.to)=h.to by omega]
def AU{w:Int}(d:Gos h p w 1 2):Gos (YO h) (TM p) w 3 4:=by
 obtain rfl|⟨k,o,f,a,rfl⟩:=d;exact .inl rfl;obtain rfl|rfl:=f;exact .inr ⟨3,o,.inl rfl,a,(AW h 1 _<|.inl rfl).symm⟩;exact .inr ⟨4,o,.inr rfl,a,(AW h 2 _<|.inr rfl).symm⟩
def H5(r:Rt h p)(hc:h.Y=xw):Body (YO h)<|TM p:=by
 have M:=XO.1 r.bd;have l:=r.ak 1 Z0;have q:=r.ak 2 Z0;simp only[Vo,qQ,Pts.ml,Pts.uc]at l q;refine⟨⟨XO.2 ?_,λk x=> ?_⟩,λk x o d g=> ?_,λk x o d g j u w y=> ?_,?_⟩;have A:(Zv h).cap=h.cap:=rfl;have B:(Zv h).base=h.base:=rfl;have C:(Zv h).to=h.to:=rfl;have D:(Zv h).H=I h.H:=rfl;have F:(Zv h).ab=I h.ab:=rfl;simp only[Zv,YO,Ziu];omega;have f:k=1\/k=2\/k=3\/k=4:=Z0;obtain rfl|rfl|rfl|rfl:=f;exact Zhm 0;exact Zhm 0;exact l.ah;exact q.ah;have f:k=3\/k=4:=Z0;obtain rfl|rfl:=f;have:=l.cw o d;rw[g]at this;cases this;have:=q.cw o d;rw[g]at this;cases this;have f:k=1\/k=2\/k=3\/k=4:=Z0;obtain rfl|rfl|rfl|rfl:=f;cases d;cases d;have:=r.ptr 1 Z0 o d g j u w y;obtain⟨a,n,m,G,H,em,t,_⟩:=r.toTld.ob (k:=1) Z0 d;simp only[Vo]at t;unfold Wi at this⊢;rw[Zhs Z0,Zhs (by rw[(r.rest hc).1];omega)]at this;rw[Zht Z0];exact AU this;have:=r.ptr 2 Z0 o d g j u w y;unfold Wi at this⊢;rw[Zhs Z0,Zhs Z0]at this;rw[Zht Z0];exact AU this;have K:=l.sum<|Zis _;have L:=q.sum<|Zis _;have w1:=Z0z l.cw;have w2:=Z0z q.cw;have z:=r.room;simp only[YF,TM,YO,Ziu];omega
structure FlipI (h:Hp) (p:Pts) (i:Nat) (g:Hp) (q:Pts):Prop where
 body:Body g q
 ff:Ty g q
 ext:Ext (YO h) (TM p) {g with E:=h.E} q
 len:I g.E=I h.E
 rest:∀j,i<=j->g.E[j]?=h.E[j]?
 te:∀j:Nat,j<i->∀w v,h.E[j]?=J w->g.E[j]?=J v->Gos g q v 1 2/\Res g q w v
def Body.E(r:Body h p)(l:Z8):Body {h with E:=l} p:=⟨⟨r.bd,r.ak⟩,r.gone,r.ptr,r.room⟩
def AV(r:Rt h p){i:Nat}(a:i<xq h.E){g:Hp}{q:Pts}(I:FlipI h p i g q):Gos g q h.E[i] 3 4:=I.ext.kz (i:=3) (j:=4) Z0 Z0<|AU<|r.E _<|ZhE a
def H9(r:Rt h p){i:Nat}(y:i<xq h.E){g:Hp}{q:Pts}(I:FlipI h p i g q){v:Int}{g':Hp}{t:Pts}(f:FwdTo g q (h.E[i]) v g' t):FlipI h p (i+1) (Se g i) t:=by
 have B:g.E[i]?=J h.E[i]:=by rw[I.rest i<|Zhm _];exact Zhi y
 have O:=AV r y I;have e:Se g i= {g' with E:=g'.E.set i v}:=by
  unfold Se;rw[B,ZhP,f.fwd]
 have x:g'.E=g.E:=f.ext.E;have l:Res g' t h.E[i] v:=by
  obtain⟨K,C,P,Q⟩|B:=f.ei;obtain d|⟨k,o,S,N,D⟩:=O;exact .inl ⟨d,C.trans d⟩;obtain d|⟨T,W,M,A,F⟩:=K;exact .inl ⟨d,C.trans d⟩;obtain⟨R,_⟩:=I.body.toTld.inj Z0 Z0 N A<|D.symm.trans F;omega;exact B
 rw[e];refine⟨f.body.E _,f.ff I.ff,I.ext.trans ⟨f.ext.H,f.ext.ab,f.ext.base,f.ext.cap,f.ext.si,f.ext.Y,f.ext.aa,rfl,f.ext.sw,f.ext.ox,f.ext.ig,f.ext.ie,f.ext.is,f.ext.gone,f.ext.room⟩,?_,λj L=> ?_,λj L w u a n=> ?_⟩;simp only[Zjl,x];exact I.len;simp only;rw[Zin Z0,x];exact I.rest j Z0;simp only at n;by_cases z:j=i;subst z;rw[Zix (by rw[x,I.len];exact y)]at n;cases n;rw[Zhi y]at a;cases a;exact⟨f.vl,l⟩;rw[Zin Z0,x]at n;obtain⟨G,H⟩:=I.te j Z0 w u a n;exact⟨(show Gos g' t u 1 2 from f.ext.kz Z0 Z0 G),(show Res g' t w u from H.ext f.ext)⟩
def H8(r:Rt h p){i:Nat}(j:i<xq h.E){g:Hp}{q:Pts}(I:FlipI h p i g q):(∃v d a,FwdTo g q (h.E[i]) v d a)/\∃a,FlipI h p (i+1) (Se g i) a/\(fwd g<|(g.E[i]?).getD 0).2.2=0:=by
 have l:g.E[i]?=J h.E[i]:=by rw[I.rest i<|Zhm _];exact Zhi j
 have k:g.aa<=xq g.H:=by
  have:g.aa=0:=I.ext.aa;omega
 obtain⟨v,d,a,f⟩:=I.body.fm k<|.inr<|AV r j I;exact⟨⟨v,d,a,f⟩,a,H9 r j I f,by rw[l,ZhP,f.fwd]⟩
def yu(r:Rt h p)(hc:h.Y=xw):∀i,i<=xq h.E->∃q,FlipI h p i (Xk (YO h) i) q
 |0,_=>⟨TM p,H5 r hc,λo d=>(by cases d),.refl _ _,rfl,λ_ _=>rfl,λj k=>Z0⟩
 |i+1,g=>by
  obtain⟨q,I⟩:=yu r hc i Z0;obtain⟨_,f,a,_⟩:=H8 r Z0 I;exact⟨f,a⟩
def AT(r:Rt h p)(hc:h.Y=xw){g:Hp}{q:Pts}(I:FlipI h p (xq h.E) g q):Rt (WF g) (if 0<(xq g.H) then q else⟨[],[],[],[]⟩)/\(¬0<xq g.H->g.H=[]/\q.H=[]/\q.ab=[]/\∀w∈g.E,w=0):=by
 have t:g.aa=0:=I.ext.aa;have f:g.ab=[]:=I.ext.ab;have y:q.ab=[]:=I.ext.ie;have d:∀w∈g.E,Gos g q w 1 2:=λw A=>by
  obtain⟨j,D⟩:=ZhI A;have u:=(Zhj.1 D).1;rw[I.len]at u;exact(I.te j u _ w (Zhi u) D).1
 have F:xq g.E<=16:=by rw[I.len];exact r.fu
 by_cases x:0<xq g.H;refine⟨?_,λh=>absurd x h⟩;rw[Zht x];unfold WF;rw[Zht x];have b:=I.body;exact⟨⟨⟨b.bd,b.ak⟩,b.gone,b.ptr,b.room⟩,F,by show 0<=g.aa;omega,by show g.aa<=xq g.H;omega,λ_=>(by show g.aa<xq g.H;omega),λh=>ZgA,λ_=>I.ff,d⟩;have a:g.H=[]:=Zje.1 Z0;have z:q.H=[]:=by
  have:=I.body.ak 1 Z0;simp only[Vo,Pts.ml,a]at this;exact this.nil
 have G:∀w∈g.E,w=0:=λw A=>by
  obtain h|⟨k,o,B,l,_⟩:=d w A;exact h;obtain rfl|rfl:=B;simp only[Pts.ml,z]at l;cases l;simp only[Pts.uc,y]at l;cases l
 refine⟨?_,λ_=>⟨a,z,y,G⟩⟩;rw[Zhs x];unfold WF;rw[Zhs x];have u:=XO.1 I.body.bd;have n:∀k,(⟨[],[],[],[]⟩:Pts).at k=[]:=λk=>by unfold Pts.at;split<;>(try split)<;>(try split)<;>rfl
 have C:∀k,Zw {g with Y:=xw,ah:=[],al:=[]} k=[]:=λk=>by unfold Zw;simp only[a,f];split<;>(try split)<;>(try split)<;>rfl
 refine⟨⟨⟨XO.2 ?_,λk B=> ?_⟩,λk B o l=> ?_,λk B o l=> ?_,?_⟩,F,by show 0<=g.aa;omega,by show g.aa<=xq g.H;omega,λh=>ZgA,λ_=>⟨by show g.aa=xq g.H;rw[a,t];rfl,rfl,rfl⟩,λh=>ZgA,λw A=>.inl<|G w A⟩;simp only[Zv,Ziu]at u⊢;omega;rw[n,C];exact Zhm _;rw[n]at l;cases l;rw[n]at l;cases l;show(xq g.H:Int)+xq g.ab+YF ⟨[],[],[],[]⟩<=g.cap;rw[a,f];simp only[Zv]at u;simp[YF,Y1];omega
def Z45(r:Rt h p)(hc:h.Y=xw):∃g q,FlipI h p (xq h.E) g q/\YT h=WF g/\Rt (WF g) (if 0<(xq g.H) then q else⟨[],[],[],[]⟩)/\(¬0<xq g.H->g.H=[]/\q.H=[]/\q.ab=[]/\∀w∈g.E,w=0):=by
 obtain⟨q,I⟩:=yu r hc (xq h.E)<|Zhm _;exact⟨_,q,I,rfl,AT r hc I⟩
end
end
end Vm
end
