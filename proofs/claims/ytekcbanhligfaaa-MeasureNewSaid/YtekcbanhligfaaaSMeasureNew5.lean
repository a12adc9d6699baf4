import Derived.RecoverIn
import Derived.Maps.OwnIn
import Derived.Test.YtekcbanhligfaaaSMeasureNew4
set_option linter.unusedSimpArgs false
set_option linter.unusedVariables false
set_option linter.defProp false
open Option renaming some→J,none→U
open Bool renaming true→xk,false→xw
open Go renaming undef→xy
open List renaming length→I
open Array renaming size→xz
open Go.World renaming heap→xj
open List renaming length→xq
open Array renaming size→xz
open Go.World renaming heap→xj
set_option maxHeartbeats 1000000
set_option maxRecDepth 100000
theorem Zet{p:Prop}(h:p:=by rw[cell_of_row _ _ _ _ _ _ u];rfl):p:=h
theorem Zee{p:Prop}(h:p:=by rw[ZB _ (by omega) (by omega)];omega):p:=h
theorem Zeq{p:Prop}(h:p:=by rw[cell_of_row _ _ _ _ _ _ F];rfl):p:=h
def ZgM:=@Array.replicate_succ
def ZgN:=@Array.replicate_zero
def Zhe:=@List.push_toArray
def ZgR:=@List.append_toArray
def Zhn:=@eq_true
def Zh2:=@Go.callsIn_wide
def Zhj:=@Go.grownBy_setCell'
def Zi7:=@Go.run_takeDeferred
def ZhV:=@List.filter_eq_nil_iff
def Zj7:=@decide_true
def Zip:=@decide_false
def ZfC:=@List.getElem?_take_of_lt
def ZhN:=@List.mem_replicate
def Zh4:=@List.mem_append_right
section
namespace Vm
open Go Go.Proofs Go.RowKit Go.Shelf
def DR(a:Nat)(W:World):Prop:=∀k,Uo W a=J k->k<xz (xj W)
def TN{A B C:World}{r}(h:A.grownBy B r)(k:B.grownBy C r):A.grownBy C r:=
 ⟨k.os.trans h.os,k.tape.trans h.tape,k.output.trans h.output,Zfw h.size k.size,λi a d=>(k.block i (Zf4 a h.size) d).trans<|h.block i a d⟩
def Z9p ws shs old{a t g x d}(hx:ws[a]?=J x)(h:XR shs old a t x=J (d,g)){f pre}:
  Xb ws shs old (f+1) a t pre=if(I ws:Int)<a+1+d.size then([],2)else if Xf ((ws.drop<|a+1).take d.size.toNat) d.gone d.ac 0=xw then([],3)else Xb ws shs old f (a+1+d.size.toNat) g (pre++[d]):=by
 simp_all[Xb]
def Z1W(n:Nat){w:World}{ws:List Int}{g o cap bw bg base z:Nat}{bt:Option Nat}{sv gv:Value}{shs:List (Int×Int)}{old:Bool}{K:Nat->World->Prop}(e0:Stat6 ws g o cap sv bw bg base z bt gv w)
  (f2:z<base) (b2:J z≠bt) (a9:LB ws g o cap gv shs old bt K) (d7:K 0 w) (a6:∀t W W',K t W->Below (xz<|xj W) W W'->K t W') (d8:∀t W W',K t W->KpW z base W W'->K t W'):
  DS Fence.wide n xP 84 #[.pointer<|J ⟨bw,0,U⟩,.pointer<|J ⟨bg,0,U⟩] (λd:Ob=> #[Wx d]) (KpW z base) (zd ws shs old K) (Z1Z ws shs old) (I ws) bt (DR z) w:=by
 intro l h W hW d6 hJ hY h0;refine callsIn_of_wp En rfl trivial ?_ rfl;simp only[Try.ntmps84,Zgs,Zgd,Zg2,Nat.reduceAdd,Nat.reduceSub,ZgM,ZgN,Zhe,ZgR,ZfW,Zgc];have c8:=Zf0<|e0.grown<|UF hW bt;have b9:=Zf0<|a6 0 w W d7 hW;have b7:=Zf0 h0;clear h0;gi_wp2
 gi_loopw [4] (λp wr=>∃(a t f:Nat) (pre:List Ob),p=.int .i64 a/\Hid (h pre wr/\K t wr/\Stat6 ws g o cap sv bw bg base z bt gv wr/\I ws<f+a/\0<f/\a<=I ws/\I pre<=a/\ZM ws shs old=Xb ws shs old f a t pre))
  (λp _=>I ws- (intOf p).toNat)
 case atStart=>exact⟨0,0,I ws+1,[],rfl,Zf0 ⟨b7.out,b9.out,c8.out,Z0,Z0,Z0,Z1,rfl⟩⟩
 case round=>
  obtain⟨a,t,f,pre,rfl,j⟩:=hrel;have k:=j.out.2.2.1;have a1:=k.uo;have c1:wr.cell? ⟨bw,0,U⟩=J sv:=by rw[Zf6 _ _ _ _ _ _ k.si];rfl
  have c2:wr.cell? ⟨bg,0,U⟩=J gv:=by rw[Zf6 _ _ _ _ _ _ k.uh];rfl
  have e3:=k.words.len;clear k;by_cases b1:a<I ws
  .obtain⟨x,hx⟩:∃x,ws[a]?=J x:=⟨_,ZeX b1⟩;obtain rfl:sv=.slice (J ⟨g,o,U⟩) (I ws) cap:=a1.resolve_right (λh=>Ze3);clear a1;have e4:((a:Int)<I ws)=True:=Zhn Z0;have hb:=a9 wr a t x j.out.2.2.1.words (by have:=j.out.2.2.1.lt;omega) j.out.2.1 hx;cases ho:XR shs old a t x with
   |none=>
    rw[ho]at hb;have HX:=Zf0 hb;clear hb;gi_wp2
    refine⟨trivial,λh=>Zei,(Zh2.2 HX.out).mono ?_⟩;rintro e w1 ⟨y,rfl⟩;have H:=Zf0 y;clear y;gi_wp2
    refine⟨rfl,.inr ⟨_,pre,rfl,⟨3,.inr rfl,rfl,?_⟩,hJ _ _ _ _ j.out.1 H.out<|λr e=>e.symm⟩⟩;obtain⟨_,_,_,hf,N,_,_,L⟩:=j.out;cases f with
    |zero=>omega
    |succ f=>
     simp_all[Xb]
   |some q=>
    obtain⟨d,t'⟩:=q;rw[ho]at hb;have HX:=Zf0 hb;clear hb;obtain⟨a0,B⟩:=yw ho;gi_wp2
    refine⟨trivial,λh=>Zei,(Zh2.2 HX.out).mono ?_⟩;rintro e w1 ⟨y,rfl,b0⟩;have H:=Zf0 y;have c0:=Zf0 b0;have M:=j.out.2.2.1.grown y;have e9:=Zf0 M;have e1:∀O,(w1.alloc O).cell? ⟨bw,0,U⟩=J (.slice (J ⟨g,o,U⟩) (I ws) cap):=λO=>by
     rw[Zgv _ _ _<|ZV M.si,Zf6 _ _ _ _ _ _ M.si];rfl
    have Z:wr.grownBy (w1.alloc<|.cells #[.int .i64 a,.int .i64 d.size,.int .i64 d.ac,.bool d.gone,.int .u64 d.target] 105) bt:=TN y<|Zgi _ _ _;have a8:=Zf0<|j.out.2.2.1.grown Z;have hh:=Z2O (w1.alloc<|.cells #[.int .i64 a,.int .i64 d.size,.int .i64 d.ac,.bool d.gone,.int .u64 d.target] 105) ws g o cap a8.out.words (by have:=a8.out.lt;omega) d a B b1 a0;unfold Wx at hh;rw[B]at hh;have b5:=Zf0 Z;have R:=Zf0 hh;have G:∀f pre,Xb ws shs old (f+1) a t pre=_:=λf pre=>Z9p ws shs old hx ho (f:=f) (pre:=pre);have S:=Zf0 G;clear y b0 M Z hh G hx;unfold Wx;gi_wp2
    refine⟨trivial,λh=>Zei,(Zh2.2 R.out).mono ?_⟩;rintro e w2 ⟨rfl,C⟩;have A:wr.grownBy w2 bt:=TN b5.out<|UF C bt;have Q:=Zf0 A;have b3:=Zf0 C;unfold zG;by_cases T:(I ws:Int)<d.Z+1+d.size
    .rw[Zfc T];rw[B]at T;clear C A;gi_wp2
     refine⟨rfl,.inr ⟨_,pre,rfl,⟨2,.inl rfl,rfl,?_⟩,hJ _ _ _ _ j.out.1 Q.out<|λr e=>e.symm⟩⟩;obtain⟨_,_,_,hf,N,_,_,L⟩:=j.out;obtain⟨f,rfl⟩:∃f',f=f'+1:=⟨f-1,Z0⟩;rw[L,S.out,Zfc T]
    .rw[Zf7 T];by_cases X:Xf ((ws.drop<|d.Z.toNat+1).take d.size.toNat) d.gone d.ac 0=xw
     .rw[Zfc X];rw[B]at T X;clear C A;gi_wp2
      refine⟨rfl,.inr ⟨_,pre,rfl,⟨3,.inr rfl,rfl,?_⟩,hJ _ _ _ _ j.out.1 Q.out<|λr e=>e.symm⟩⟩;obtain⟨_,_,_,hf,N,_,_,L⟩:=j.out;obtain⟨f,rfl⟩:∃f',f=f'+1:=⟨f-1,Z0⟩;rw[L,S.out,Zf7 Z0];simp_all
     .rw[Zf7 X];rw[B]at T X;simp only[Zfl]at X;have b6:=Zf0<|And.intro T X;have Y:=hJ _ _ _ _ j.out.1 A (λr e=>e.symm);have e7:=Zf0 Y;have d5:=Zf0<|j.out.2.2.1.grown A;have u:w2.heap[xz<|xj w1]?=J (.cells #[.int .i64 a,.int .i64 d.size,.int .i64 d.ac,.bool d.gone,.int .u64 d.target] 105 (0,0)):=(C.block _ Z1).trans<|Zfq w1 _;have b4:=Zf0 u;obtain⟨fn,e6,assign,e2,hy,L⟩:=hY pre d w2 Y (by have:=j.out.2.2.2.2.2.2.1;omega);unfold Wx at hy;rw[B]at hy;have d0:w2.cell? ⟨xz<|xj w1,0,U⟩=J (.int .i64 a):=Zet;have d1:w2.cell? ⟨xz<|xj w1,1,U⟩=J (.int .i64 d.size):=Zet;have d2:w2.cell? ⟨xz<|xj w1,2,U⟩=J (.int .i64 d.ac):=Zet;have d3:w2.cell? ⟨xz<|xj w1,3,U⟩=J (.bool d.gone):=Zet;have d4:w2.cell? ⟨xz<|xj w1,4,U⟩=J (.int .u64 d.target):=Zet;clear C A Y u;gi_wp2
      refine⟨λh=>Zei,L.mono ?_⟩;rintro e W3 ⟨rfl,a3,D⟩;have b8:=Zf0 a3;have e8:=Zf0 D;have F:Uo w2 z≠J (xz<|xj w1):=by
       intro e;have d9:z<xz (xj wr):=by have:=j.out.2.2.1.lt.2.2.2;omega
       have:Uo w2 z=Uo wr z:=by
        unfold Uo;rw[ZfR (a:=⟨z,0,U⟩)<|Q.out.block z d9 b2]
       rw[this]at e;have:=d6 _ _ j.out.1 _ e;have:=H.out.size;omega
      have P:=D.same _ _ b4.out rfl (by have:=j.out.2.2.1.lt.2.2.2;have:=H.out.size;omega)<|.inr F;have f1:W3.cell? ⟨xz<|xj w1,1,U⟩=J (.int .i64 d.size):=by rw[Zf6 _ _ _ _ _ _ P];rfl
      have a7:=d5.out.kp D;have a4:K t' w2:=a6 _ _ _ c0.out<|((Zfg _ _).alloc (Zf3 _) _).trans<|b3.out.mono Z1;have a5:=d8 _ _ _ a4 D;have a2:=Zf0<|And.intro a7 a5;obtain⟨m,hm⟩:∃m:Nat,d.size=m:=⟨d.size.toNat,by have:=(YH.1 a0).1;omega⟩;rw[hm]at f1;have f4:(m:Int)<=255:=by have:=(YH.1 a0);omega
      have q1:IntKind.i64.wrap (1+(m:Int))=((1+m:Nat):Int):=Zee;have q2:IntKind.i64.wrap ((a:Int)+((1+m:Nat):Int))=((a+(1+m):Nat):Int):=Zee;clear a3 D P a7 a4 a5 F;clear X;gi_wp2
      obtain⟨_,_,_,hf,N,f0,f5,L⟩:=j.out;obtain⟨f,rfl⟩:∃f',f=f'+1:=⟨f-1,Z0⟩;rw[S.out,Zf7 Z0,Zf7 b6.out.2]at L;have f3:a+1+m<=I ws:=Z0;refine⟨⟨a+(1+m),t',f,pre++[d],Z1,Zf0 ⟨b8.out,a2.out.2,a2.out.1,Z0,Z0,Z0,Ze4,?_⟩⟩,by grind [intOf]⟩;grind
  .have e5:((a:Int)<I ws)=False:=ZgU Z0
   have HE:Hid<|zd ws shs old K pre wr:=Zf0 (by
    obtain⟨_,hK,_,hf,N,_,_,L⟩:=j.out;refine⟨t,hK,?_⟩;cases f with
    |zero=>omega
    |succ f=>
     simp_all[Xb,ZfP])
   obtain⟨sa,sc,rfl⟩:∃sa sc,sv=.slice sa (I ws) sc:=by
    grind
   clear a1;gi_wp2
   go_end0
   exact .inl ⟨_,pre,rfl,HE.out,j.out.1⟩
end Vm
namespace Vm
open Go Go.Proofs Go.RowKit Go.Shelf
def Z1X(w:World)(g d:Value)(k:∃a n c,g=.slice a n c)(h:d=.nilFunc\/∃f vs,d=.func (.func f) #[] vs):
  Calls xP 83 #[g,d] w λe l=>e=.returned (.func (.func 84) #[] #[.pointer<|J ⟨xz<|xj w,0,U⟩,.pointer<|J ⟨xz (xj w)+1,0,U⟩])/\
   l=(w.alloc<|.cells #[g] 25).alloc (.cells #[d] 166):=by
 have j:∀(fn:Go.Fn) (first cap:Array Value) (w:World),(Instr.makeFunc fn first cap).run xP w=.ok (.func fn first cap) w:=λ_ _ _ _=>rfl;obtain⟨a,n,c,rfl⟩:=k;obtain rfl|⟨f,vs,rfl⟩:=h
 .go_enter jm,Try.ntmps83;go_wp2;exact ZfA (results_tmp rfl _ _ _) rfl ⟨rfl,rfl⟩
 .go_enter jm,Try.ntmps83;go_wp2;exact ZfA (results_tmp rfl _ _ _) rfl ⟨rfl,rfl⟩
def Z55 w:Sem.run xP (binOp .neq 20 .nilIface .nilIface) w=.ok (.bool xw) w:=ZeR
def Z56 w T v:Sem.run xP (binOp .neq 20 (.iface T v) .nilIface) w=.ok (.bool xk) w:=ZeR
def Z94(w:World)(x:Int):Sem.run xP (Instr.typeAssert (.iface 165<|.agg #[.int .i64 x]) 20 165 xk) w=.ok (.tuple #[.agg #[.int .i64 x],.bool xk]) w:=ZeR
def Z1B(n:Nat)(p q:Addr)(w:World):
  CallsDIn Fence.wide n xP 82 #[.pointer<|J p,.pointer<|J q] .returning w λe f g=>e=.returned (.tuple #[])/\f=.returning/\g=w:=by
 have j:=Z55;refine callsDIn_of_wpSIn jl rfl trivial λa h d=> ?_;simp only[Try.ntmps82,Zgs,Zgd,Zg2,Nat.reduceAdd,Nat.reduceSub,ZgM,ZgN,Zhe,ZgR,ZfW,Zgc];apply wpSIn_seq;apply wpSIn_region;simp[wpOpsSIn,go_sem,recoverD,d,Exit.thenS];refine wpSIn_of_wpIn rfl ?_;gi_wp2
 cases a;simp_all [bodyPostS,results,Try.results82]
def Z1C(n:Nat)(a d:Nat)(x:Int)(w:World)(z l:Value)(f:Boxed w a 89 z)(g:Boxed w d 28 l)(h:a≠d):
  CallsDIn Fence.wide n xP 82 #[.pointer<|J ⟨a,0,U⟩,.pointer<|J ⟨d,0,U⟩] (.panicking<|Vc x) w λe y j=>
   e=.returned (.tuple #[])/\y=.panicking [{v:=.iface 165<|.agg #[.int .i64 x],recovered:=xk}]/\
   Boxed j a 89 (.slice U 0 0)/\Boxed j d 28 (.int .i64 x)/\(xz (xj w)<=xz (xj j)/\∀k,k<xz (xj w)->k≠a->k≠d->j.heap[k]?=w.heap[k]?)/\j.os=w.os/\j.tape=w.tape/\j.output=w.output:=by
 have C:=Z56;have D:=Z94;have P:=(f.alloc<|.cells #[.int .i64 x] 165).cell;have p2:=(f.alloc<|.cells #[.int .i64 x] 165).frozen;have Q:=(g.alloc<|.cells #[.int .i64 x] 165).cell;have R:=(g.alloc<|.cells #[.int .i64 x] 165).frozen;have p3:=f.cell;have p4:=f.frozen;have S:=g.cell;have T:=g.frozen;have H:=f.lt;have K:=g.lt;have t:¬a=d:=h;have u:¬d=a:=λe=>h e.symm;have L:¬a=xz (xj w):=Z0;have M:¬xz (xj w)=a:=Z0;have N:¬d=xz (xj w):=Z0;have O:¬xz (xj w)=d:=Z0;have o:=Zf0<|And.intro f g;clear f g h;refine callsDIn_of_wpSIn jl rfl trivial λB A r=> ?_;simp only[Try.ntmps82,Zgs,Zgd,Zg2,Nat.reduceAdd,Nat.reduceSub,ZgM,ZgN,Zhe,ZgR,ZfW,Zgc];apply wpSIn_seq;apply wpSIn_region;simp[wpOpsSIn,go_sem,recoverD,r,Vc,Exit.thenS];refine wpSIn_of_wpIn rfl ?_;gi_wp2
 gi_region
 all_goals gi_wp2
 obtain⟨f,g⟩:=o.out;have p:Boxed ((w.setCell ⟨a,0,U⟩<|.slice U 0 0).setCell ⟨d,0,U⟩<|.int .i64 x) a 89<|.slice U 0 0:=(Zff _ ⟨d,0,U⟩ _ a t).trans<|f.set _;have q:Boxed ((w.setCell ⟨a,0,U⟩<|.slice U 0 0).setCell ⟨d,0,U⟩<|.int .i64 x) d 28<|.int .i64 x:=Boxed.set _ (show Boxed (w.setCell ⟨a,0,U⟩<|.slice U 0 0) d 28 l from(Zff _ ⟨a,0,U⟩ _ d u).trans g);refine⟨rfl,_,rfl,_,by simp[results,Try.results82],rfl,rfl,p.alloc _,q.alloc _,⟨?_,λk F k1 G=> ?_⟩,rfl,rfl,rfl⟩;simp;show(World.alloc _ _).heap[k]?=_;grind [Below.heap_alloc,World.setCell,Below.heap_setCell]
end Vm
namespace Vm
open Go Go.Proofs Go.RowKit Go.Shelf
def Tn(a:Ob):List Value:=[.int .i64 a.Z,.int .i64 a.size,.int .i64 a.ac,.bool a.gone,.int .u64 a.target]
def WE(l:List Ob):List Value:=l.flatMap Tn
def Z5q l x:WE (l++[x])=WE l++Tn x:=by simp[WE]
structure WIv (w:World) (bt:Option Nat) (pre:List Ob) (W:World):Prop where
 row:∃v,Boxed W (xz<|xj w) 89 v/\W.ownsRow (xz (xj w)+4) 105 5 v (I pre) (WE pre)
 e:Boxed W (xz (xj w)+1) 28<|.int .i64 0
 gr:w.grownBy W bt
 size:xz (xj w)+4<=xz (xj W)
def UG{w X Y:World}{bt row}(h:w.grownBy X bt)(k:X.grownBy Y row)(f:∀r,row=J r->J r=bt\/xz (xj w)<=r):w.grownBy Y bt:=
 ⟨k.os.trans h.os,k.tape.trans h.tape,k.output.trans h.output,Zfw h.size k.size,λi a d=>
  (k.block i (Zf4 a h.size) Ze2).trans (h.block i a d)⟩
theorem qk{W b t v}(h:Boxed W b t v):Uo W b=v.ownBlock:=by
 unfold Uo;rw[h.cell];rfl
def WIv.sw{w bt pre W}(h:WIv w bt pre W):DR (xz<|xj w) W:=by
 let⟨v,f,d⟩:=h.row;intro k a;rw[qk f]at a;exact(d.lt k a).2
def WIv.own{w bt}(u:∀r,bt=J r->r<xz (xj w)):OwnP bt (xz (xj w)+4)<|WIv w bt:=by
 intro s X Y row h d p;have y:∀k,xz (xj w)<=k->k<xz (xj w)+4->J k≠row:=by
  intro k t A e;obtain j|⟨j,_⟩:=p k e.symm;grind;omega
 let⟨v,z,a⟩:=h.row;refine⟨⟨v,z.kept d Ze3,a.kept d ?_⟩,h.e.kept d Ze3,UG h.gr d λr e=>Ze2,Zfw h.size d.size⟩;cases l:v.ownBlock with
 |none=>simp
 |some b=>
  refine .inr λe=> ?_;have t:=a.lt b l;obtain j|⟨_,o,n,x⟩:=p b e.symm;grind;obtain⟨rfl,_⟩|⟨g,cap,q,rfl,_,f,_⟩:=a.2;simp[Value.ownBlock]at l;obtain rfl:g=b:=by grind [Value.ownBlock]
  rw[f]at n;cases n;cases x
def WIv.appended{w W w1:World}{bt:Option Nat}{pre:List Ob}{x:Ob}{v v':Value}{tmp:Obj}(C:∀r,bt=J r->r<xz (xj w))(h:WIv w bt pre W)(A:Boxed W (xz<|xj w) 89 v)
  (g:W.ownsRow (xz (xj w)+4) 105 5 v (I pre)<|WE pre) (d:w1.ownsRow (xz (xj w)+4) 105 5 v' (I pre+1)<|WE pre++Tn x)
  (a:(W.alloc tmp).grownBy w1 v.ownBlock) (f:v'.ownBlock=v.ownBlock\/v'.ownBlock=J (xz<|xj<|W.alloc tmp)):
  Boxed w1 (xz<|xj w) 89 v/\KeepsFrom (xz (xj w)+4) W (w1.setCell ⟨xz<|xj w,0,U⟩ v')/\KpW (xz<|xj w) (xz (xj w)+4) W (w1.setCell ⟨xz<|xj w,0,U⟩ v')/\WIv w bt (pre++[x]) (w1.setCell ⟨xz<|xj w,0,U⟩ v'):=by
 have u:=h.size;obtain⟨y,l,F,j,B⟩:=A.appended Zeh (yJ g (B':=xz<|xj w) Z0) Z0 (Zf3 _) (yJ d (B':=xz<|xj w) Z0) a;have z:∀b,v.ownBlock=J b->xz (xj w)+4<=b:=λb p=>(g.lt b p).1
 have t:(w1.setCell ⟨xz<|xj w,0,U⟩ v').ownsRow (xz (xj w)+4) 105 5 v' (I pre+1)<|WE pre++Tn x:=d.kept (Zhj w1 (xz<|xj w) v') (by
  cases p:v'.ownBlock with
  |none=>simp
  |some b=>exact .inr λe=>by have G:=(d.lt b p).1;grind)
 refine⟨y,j.from _,⟨j.size,λk o n H D K=> ?_,λk n e=> ?_⟩,⟨v',l,?_⟩,?_,?_,Zfw u j.size⟩;rw[Zff _ _ _ _ D,a.block k (by have:=ZV n;simp;omega) (λe=> ?_),Zfa _ _ _<|ZV n,n];grind [qk,trans];rw[qk l]at e;rw[qk A];obtain f|f:=f;simp_all;rw[f]at e;simp at e;omega;simp_all[ZfK,Z5q];have q:Boxed w1 (xz (xj w)+1) 28<|.int .i64 0:=(h.e.alloc tmp).kept a (λe=>Ze2);exact(Zff _ _ _ _ Z1).trans q;refine UG (UG (UG h.gr (Zgi W tmp U) Z1) a λr e=>.inr ?_) (Zhj w1 (xz<|xj w) v') λr e=>.inr ?_;grind;simp_all
def KpW.alloc{a base W}o(d:a<xz (xj W)):KpW a base W<|W.alloc o:=by
 refine⟨Z1,λk h f _ _ _=>(Zfa _ _ _ Ze2).trans f,λk _ g=> ?_⟩;simp_all[Uo,Zgv]
end Vm
namespace Vm
open Go Go.Proofs Go.RowKit Go.Shelf
attribute [local go_sem] Oper.semAt_some
def Z42:(xP.info? 105).map (λi=>(i.zero,i.size,i.bytes))=J (J<|.agg #[.int .i64 0,.int .i64 0,.int .i64 0,.bool xw,.int .u64 0],5,40):=Z2
def unO:xP.underlying 89=J (.slice 105):=Z2
def Z1G(w:World)a b c d e t:∀j u,[a,b,c,d,e][j]?=J u->(w.alloc<|.cells #[a,b,c,d,e] t).cell? ((⟨xz<|xj w,0,U⟩:Addr).add j)=J u:=by
 intro j u h;have:=Zf6 _ _ j _ _ _<|Zfq w<|.cells #[a,b,c,d,e] t;grind [Addr.add]
def Et(w:World)(ws:List Int)(shs:List<|Int×Int)(old:Bool)(bt:Option Nat)(K:Nat->World->Prop)(e:Ending)(W:World):Prop:=
 ∃v n a,e=.returned (.tuple #[v,.int .i64 n])/\w.grownBy W bt/\W.ownsRow (xz (xj w)+4) 105 5 v (I a) (WE a)/\((n=0/\zd ws shs old K a W)\/((n=2\/n=3)/\a=[]/\ZM ws shs old=([],n)))
def OY{w:World}{ws:List Int}{g o cap:Nat}{bt:Option Nat}{p j:Value}{shs:List (Int×Int)}{old:Bool}{K:Nat->World->Prop}(hw:Words w ws g o cap)
  (b5:p=.slice (J ⟨g,o,U⟩) (I ws) cap\/(ws=[]/\∃a c,p=.slice a 0 c)) (hg:(ws≠[]->g<xz (xj w))/\g<xz (xj w)+4/\g≠xz (xj w)) (d6:j=.nilFunc\/∃f vs,j=.func (.func f) #[] vs)
  (a0:∀r,bt=J r->r<xz (xj w)) (d5:J g≠bt) (a6:LB ws g o cap j shs old bt K) (b6:K 0 w)
  (z:∀t A B row,K t A->A.grownBy B row->(∀r,row=J r->xz (xj w)<=r)->K t B)
  (b8:∀bl base t A B,xz (xj w)<=bl->xz (xj w)<=base->K t A->KpW bl base A B->K t B):
  Calls xP 79 #[p,j] w (Et w ws shs old bt K):=by
 refine(Zh2 (n:=5)).1 ?_;have f9:∀(fn:Go.Fn) (first cap:Array Value) (w:World),(Instr.makeFunc fn first cap).run xP w=.ok (.func fn first cap) w:=λ_ _ _ _=>rfl;have e0:∃a n c,p=.slice a n c:=by
  obtain rfl|⟨_,a,c,rfl⟩:=b5;simp;simp
 refine callsIn_of_wp_marks Em rfl trivial ?_ rfl;simp only[Try.ntmps79,Zgs,Zgd,Zg2,Nat.reduceAdd,Nat.reduceSub,ZgM,ZgN,Zhe,ZgR,ZfW,Zgc];have he:=λW=>Z1X W p j e0 d6;gi_wp2
 refine⟨trivial,(Zh2.2<|he _).mono ?_⟩;rintro e w1 ⟨rfl,rfl⟩;gi_wp2
 have a2:∀b:Nat,b<xz (xj w)->((((w.alloc<|Obj.cells #[.slice U 0 0] 89).alloc<|.cells #[.int .i64 0] 28).alloc<|.cells #[p] 25).alloc<|.cells #[j] 166).heap[b]?=w.heap[b]? :=λb hb=>by
  grind [Below.heap_alloc]
 have b0:Boxed ((((w.alloc<|Obj.cells #[.slice U 0 0] 89).alloc<|.cells #[.int .i64 0] 28).alloc<|.cells #[p] 25).alloc<|.cells #[j] 166) (xz<|xj w) 89<|.slice U 0 0:=(((Boxed.new w _ _).alloc _).alloc _).alloc _;have b1:Boxed ((((w.alloc<|Obj.cells #[.slice U 0 0] 89).alloc<|.cells #[.int .i64 0] 28).alloc<|.cells #[p] 25).alloc<|.cells #[j] 166) (xz (xj w)+1) 28<|.int .i64 0:=by
  have:=((Boxed.new (w.alloc<|Obj.cells #[.slice U 0 0] 89) 28<|.int .i64 0).alloc<|.cells #[p] 25).alloc<|.cells #[j] 166;rwa[ZgY]at this
 have b2:Boxed ((((w.alloc<|Obj.cells #[.slice U 0 0] 89).alloc<|.cells #[.int .i64 0] 28).alloc<|.cells #[p] 25).alloc<|.cells #[j] 166) (xz (xj w)+2) 25 p:=by
  have:=(Boxed.new ((w.alloc<|Obj.cells #[.slice U 0 0] 89).alloc<|.cells #[.int .i64 0] 28) 25 p).alloc<|.cells #[j] 166;simp_all
 have b3:Boxed ((((w.alloc<|Obj.cells #[.slice U 0 0] 89).alloc<|.cells #[.int .i64 0] 28).alloc<|.cells #[p] 25).alloc<|.cells #[j] 166) (xz (xj w)+3) 166 j:=by
  have:=Boxed.new (((w.alloc<|Obj.cells #[.slice U 0 0] 89).alloc<|.cells #[.int .i64 0] 28).alloc<|.cells #[p] 25) 166 j;simp_all
 have L:w.grownBy ((((w.alloc<|Obj.cells #[.slice U 0 0] 89).alloc<|.cells #[.int .i64 0] 28).alloc<|.cells #[p] 25).alloc<|.cells #[j] 166) bt:=⟨rfl,rfl,rfl,Ze4,λk hk _=>a2 k hk⟩;have P:xz (xj<|(((w.alloc<|Obj.cells #[.slice U 0 0] 89).alloc<|.cells #[.int .i64 0] 28).alloc<|.cells #[p] 25).alloc<|.cells #[j] 166)=xz (xj w)+4:=Z1;generalize f7:(((w.alloc<|Obj.cells #[.slice U 0 0] 89).alloc<|.cells #[.int .i64 0] 28).alloc<|.cells #[p] 25).alloc (.cells #[j] 166)=W0 at*;have e7:Stat6 ws g o cap p (xz (xj w)+2) (xz (xj w)+3) (xz (xj w)+4) (xz<|xj w) bt j W0:=by
  refine⟨⟨λi x F=> ?_,hw.le,hw.cap,hw.len,hw.u64⟩,b5,b2,b3,λhn=> ?_,⟨Z0,Z0,Z0,Z0⟩,⟨Z0,Z0,Z0⟩,d5,?_,?_⟩;rw[<-hw.Z i x F];grind [World.cell?_of_block];obtain⟨x,F⟩:∃x,ws[0]?=J x:=by cases ws with|nil=>simp_all|cons x l=>simp
  have:=hw.Z 0 x F;rw[a2 g<|hg.1 hn];unfold World.cell? at this;cases hh:w.heap[g]? with
  |none=>simp_all
  |some ob=>
   refine⟨ob,rfl,?_⟩;grind [Obj.isCells]
  grind;grind
 have a5:K 0 W0:=z 0 w W0 U b6 ⟨L.os,L.tape,L.output,L.size,λk hk _=>a2 k hk⟩ Z1;have b4:=Z1W 4 e7 Z0 (λe=>Ze2) a6 a5 (λt A B hA O=>z t A B U hA ⟨O.os,O.tape,O.output,O.size,λk hk _=>O.block k hk⟩ Z1) (λt A B hA O=>b8 _ _ t A B (Zf3 _) Z0 hA O)
 refine Z9A rfl Z0 (gf:=84) (lb:=#[.pointer<|J ⟨xz (xj w)+2,0,U⟩,.pointer<|J ⟨xz (xj w)+3,0,U⟩]) rfl trivial (enters_of En Z2 rfl)
  b4 (λr e=>Ze2) KpW.trans (λW l o o' h1 h2 h3 _=>KpW.put o' h2 h3 Z0) (Zfg _ _) (λ_=>rfl)
  (WIv w bt) (P▸WIv.own a0) (λpre W h=>h.sw) ⟨⟨_,b0,Zgl _ _ _ _⟩,b1,L,Z0⟩ ?hS
  (λx a' W=>∃y,xz (xj w)+4<=y/\W.heap[y]?=J (.cells #[.int .i64 x.Z,.int .i64 x.size,.int .i64 x.ac,.bool x.gone,.int .u64 x.target] 105 (0,0))/\
   a'= {tmps:=#[p,j,xy,xy,.pointer<|J ⟨xz<|xj w,0,U⟩,.pointer<|J ⟨xz (xj w)+1,0,U⟩,.pointer<|J ⟨y,0,U⟩,
    .func (.func 82) #[] #[.pointer<|J ⟨xz<|xj w,0,U⟩,.pointer<|J ⟨xz (xj w)+1,0,U⟩],p,j,.func (.func 84) #[] #[.pointer<|J ⟨xz (xj w)+2,0,U⟩,.pointer<|J ⟨xz (xj w)+3,0,U⟩],Wx x,xy,xy,xy,xy,xy],defers:=[]})
  ?hAx ?assign ?body ?done ?panic
 case hS=>
  rintro u X Y row ⟨t,hK,hR⟩ M d;exact⟨t,z t X Y row hK M λr e=>(d r e).elim (λe2=>by cases e2) (λe2=>Z0),hR⟩
 case hAx=>
  rintro x a' s X Y row ⟨y,O,F,ha⟩ M d;refine⟨y,O,(M.block y (ZV F) λe=> ?_).trans F,ha⟩;obtain e2|⟨_,o2,h2,h3⟩:=d y e.symm;cases e2;rw[F]at h2;cases h2;cases h3
 case assign=>
  rintro l pre x W K2 q b7;simp only[List.zip_cons_cons,Array.zip,Wx];gi_wp2
  exact b7 _ _ ((KeepsOthers.alloc W _).from _) (KpW.alloc _ (by have:=q.size;omega)) ((WIv.own a0).alloc _ q) ⟨xz<|xj W,q.size,Zfq W _,rfl⟩
 case body=>
  rintro l pre x a' W q ⟨y,f6,F,rfl⟩ a8;obtain⟨v,Q,d⟩:=q.row;obtain⟨i0,d7,e8,e9,f2⟩:=info_parts Z42;obtain⟨G,H,rfl⟩:=XK d;have c1:=Q.cell;have c2:=Q.frozen;have d0:W.cell? ⟨y,0,U⟩=J (.int .i64 x.Z):=Zeq;have d1:W.cell? ⟨y,1,U⟩=J (.int .i64 x.size):=Zeq;have d2:W.cell? ⟨y,2,U⟩=J (.int .i64 x.ac):=Zeq;have d3:W.cell? ⟨y,3,U⟩=J (.bool x.gone):=Zeq;have d4:W.cell? ⟨y,4,U⟩=J (.int .u64 x.target):=Zeq;have g4:I pre<=1000000:=Zfw (Nat.le_of_lt a8) hw.len;have f5:=q.size;have HA:=λtmp w1 v'=>WIv.appended (W:=W) (w1:=w1) (x:=x) (v':=v') (tmp:=tmp) a0 q Q d;gi_wp2_with (gi_at_builtin;refine wpListIn_append_own_at _ rfl _ _ 89 rfl (xz (xj w)+4) 105 i0 _ 5 40 unO d7 e8 e9 f2 rfl Zeh _ _ _ rfl (d.alloc _) ⟨xz<|xj W,0,U⟩ 1 1 (Tn x) rfl rfl (Z1G _ _ _ _ _ _ _) (by simp[Tn,Value.oneCell']) (by grind [maxLen]) Z0 Ze4 ?_;intro v' w1 N a1 _ c0;obtain⟨g',f4,rfl⟩:=ownsRow_succ N;obtain⟨e1,e2,e3,e4⟩:=HA _ _ _ N a1 c0;have e5:=e1.cell;have e6:=e1.frozen)
  rw[P];exact⟨e2,e3,e4⟩
 case done=>
  rintro D u W hD hS q Z;obtain⟨v,Q,d⟩:=q.row;obtain⟨G,H,rfl⟩:=XK d;have c1:=Q.cell;have c2:=Q.frozen;have c3:=q.e.cell;have c4:=q.e.frozen;rw[P]at hD;gi_wp2
  have a4:((W.setCell ⟨xz<|xj w,0,U⟩<|.slice G (I u) H).setCell ⟨xz (xj w)+1,0,U⟩<|.int .i64 0).heap[D]?=J (.deferred<|J []):=by
   rw[Zff _ _ _ _ Ze2,Zff _ _ _ _ Ze2];exact Z
  have f0:Boxed ((W.setCell ⟨xz<|xj w,0,U⟩<|.slice G (I u) H).setCell ⟨xz (xj w)+1,0,U⟩<|.int .i64 0) (xz<|xj w) 89<|.slice G (I u) H:=
   (Zff _ _ _ _ Z1).trans (Q.set _)
  have f1:Boxed ((W.setCell ⟨xz<|xj w,0,U⟩<|.slice G (I u) H).setCell ⟨xz (xj w)+1,0,U⟩<|.int .i64 0) (xz (xj w)+1) 28<|.int .i64 0:=
   Boxed.set _ (show Boxed (W.setCell ⟨xz<|xj w,0,U⟩<|.slice G (I u) H) (xz (xj w)+1) 28 (.int .i64 0)from(Zff _ _ _ _ Z1).trans q.e)
  have g1:=Zhj W (xz<|xj w)<|.slice G (I u) H;have g2:=Zhj (W.setCell ⟨xz<|xj w,0,U⟩<|.slice G (I u) H) (xz (xj w)+1)<|.int .i64 0;have R:=d.lt
  have r2:=(d.kept g1 (by
   cases hb:(Value.slice G (I u) H).ownBlock with
   |none=>simp
   |some b=>exact .inr λe=>by have:=(R b hb).1;grind)).kept g2 (by
   cases hb:(Value.slice G (I u) H).ownBlock with
   |none=>simp
   |some b=>exact .inr λe=>by have:=(R b hb).1;grind)
  generalize f8:(W.setCell ⟨xz<|xj w,0,U⟩<|.slice G (I u) H).setCell ⟨xz (xj w)+1,0,U⟩ (.int .i64 0)=W2 at*;have g3:=ZhJ W2 D<|.deferred U;have S:Boxed (W2.putObj D<|.deferred U) (xz<|xj w) 89<|.slice G (I u) H:=(ZfE Z0).trans f0;have T:Boxed (W2.putObj D<|.deferred U) (xz (xj w)+1) 28<|.int .i64 0:=(ZfE Z0).trans f1;have k0:=S.cell;have k1:=T.cell;refine⟨Z1,.inl ⟨D,_,rfl,Zi7 a4,?_⟩⟩;refine⟨Z1,.inr ⟨λh=>Zei,.func 82,_,82, #[.pointer<|J ⟨xz<|xj w,0,U⟩,.pointer<|J ⟨xz (xj w)+1,0,U⟩],rfl,ZeR,λ_ _=>trivial,?_⟩⟩;refine(Z1B _ _ _ _).mono ?_;rintro e u' f3 ⟨rfl,rfl,rfl⟩;refine⟨.tuple #[.slice G (I u) H,.int .i64 0],by simp[results,Try.results79,go_sem,k0,k1],?_⟩;obtain⟨t,hK,hR⟩:=hS;refine⟨_,0,u,rfl,UG (UG (UG q.gr g1 λr e=>.inr ?_) g2 λr e=>.inr ?_) g3 λr e=>.inr ?_,ownsRow_putObj r2 _ a4 rfl,.inl ⟨rfl,t,z t _ _ _ (z t _ _ _ (z t _ _ _ hK g1 λr e=> ?_) g2 λr e=> ?_) g3 λr e=> ?_,hR⟩⟩;all_goals (grind)
 case panic=>
  rintro D chain pre W hD ⟨e,c8,rfl,b9⟩ q Z;rw[P]at hD;obtain⟨v,Q,d⟩:=q.row;have g3:=ZhJ W D<|.deferred U;have S:Boxed (W.putObj D<|.deferred U) (xz<|xj w) 89 v:=(ZfE Z0).trans Q;have T:Boxed (W.putObj D<|.deferred U) (xz (xj w)+1) 28<|.int .i64 0:=(ZfE Z0).trans q.e;have C:w.grownBy (W.putObj D<|.deferred U) bt:=UG q.gr g3 λr e=>.inr Ze2;refine⟨Z1,.inl ⟨D,_,rfl,Zi7 Z,?_⟩⟩;refine⟨Z1,.inr ⟨λh=>Zei,.func 82,_,82, #[.pointer<|J ⟨xz<|xj w,0,U⟩,.pointer<|J ⟨xz (xj w)+1,0,U⟩],rfl,ZeR,λ_ _=>trivial,?_⟩⟩;refine(Z1C _ (xz<|xj w) (xz (xj w)+1) e _ _ _ S T Z0).mono ?_;rintro e' u' f3 ⟨rfl,rfl,h0,h1,⟨d9,hk⟩,d8,a3,a9⟩;have k0:=h0.cell;have k1:=h1.cell;refine⟨.tuple #[.slice U 0 0,.int .i64 e],by simp[results,Try.results79,go_sem,k0,k1],?_⟩;refine⟨_,e,[],rfl,⟨d8.trans C.os,a3.trans C.tape,a9.trans C.output,Zfw C.size d9,λk a7 hn=> ?_⟩,Zgl _ _ _ _,.inr ⟨c8,rfl,b9⟩⟩;exact(hk k (Zf4 a7 C.size) Z0 Z0).trans (C.block k a7 hn)
end Vm
namespace Vm
open Go Go.Proofs Go.RowKit Go.Shelf
theorem S6{w G k n v}(r:Rd w G (.int k n) v):v=.int k n:=by cases r;rfl
theorem Nc{w G b v}(r:Rd w G (.bool b) v):v=.bool b:=by cases r;rfl
def P4{w G ws v}(r:Rd w G (.sl<|ws.map vu) v)(B:∀b,G b->b<xz (xj w))(u:I ws<=1000000)(y:∀x∈ws,ZA x)q:
  ∃g o cap,Words w ws g o cap/\(v=.slice (J ⟨g,o,U⟩) (I ws) cap\/(ws=[]/\∃a c,v=.slice a 0 c))/\((ws≠[]->g<xz (xj w))/\(g<(xz<|xj w)\/g=q)):=by
 generalize p:ws.map vu=L at r;cases r with
 |nil a cap C=>
  have:ws=[]:=Ze3;subst this;exact⟨q,0,0,⟨Z1,Z1,Ze2,Z1,Z1⟩,Z1,Z1,.inr rfl⟩
 |sl _ b o cap k vs d l A f h n=>
  subst p;simp only[Zfu]at d h⊢;refine⟨b,o,cap,⟨λi x z=> ?_,d,l,u,y⟩,.inl rfl,Ze3,Ze3⟩;have j:(ws.map vu)[i]?=J (vu x):=by rw[Zfo,z];rfl
  have t:k=1:=((f _<|Zf5 j).1).symm;subst t;have D:i<I ws:=Ze2;rw[h i Z0];have:=n i (vu x) (by have:=Vx f j 0 Z0;simp_all);rw[S6 this]
def Z8q{w G shs v}(r:Rd w G (.sl<|shs.map XM) v)(q:∀b,G b->b<xz (xj w)):
  (∃g o cap,v=.slice (J ⟨g,o,U⟩) (I shs) cap/\I shs<=cap/\cap<=maxLen/\g<xz (xj w)/\∀i x,shs[i]?=J x->w.cell? ⟨g,o+i*2,U⟩=J (.int .i64 x.1)/\w.cell? ⟨g,o+i*2+1,U⟩=J (.int .i64 x.2))\/
  (∃a cap,v=.slice a 0 cap/\shs=[]):=by
 generalize t:shs.map XM=L at r;cases r with
 |nil a cap A=>
  simp_all
 |sl _ b o cap k vs h l n d p j=>
  subst t;simp only[Zfu]at h p⊢;refine .inl ⟨b,o,cap,rfl,h,l,q b n,λi x u=> ?_⟩;have f:(shs.map XM)[i]?=J (XM x):=by rw[Zfo,u];rfl
  have C:k=2:=((d _<|Zf5 f).1).symm;have B:i<I shs:=Ze2;have y:=j (i*2) (vi x.1) (by have:=Vx d f 0 Z0;simp_all);have z:=j (i*2+1) (vi x.2) (by have:=Vx d f 1 Z0;simp_all);grind [S6,Nat.add_assoc]
def It{w G}:∀l i c,(flat<|l.map ZL)[i]?=J c->Rd w G c ((WE l).getD i xy)
 | [],i,c,h=>Ze3
 |x::l,i,c,h=>by
  rw[Zft,RF]at h;have e:WE (x::l)=Tn x++WE l:=by simp[WE]
  by_cases d:i<5
  match i,d with
  |0,_=>simp at h;subst h;exact .int _ _
  |1,_=>simp at h;subst h;exact .int _ _
  |2,_=>simp at h;subst h;exact .int _ _
  |3,_=>simp at h;subst h;exact .bool _
  |4,_=>simp at h;subst h;exact .int _ _
  have a:(flat<|l.map ZL)[i-5]?=J c:=by
   rw[ZfB Ze3]at h;simpa[ZL,V.cells]using h
  have:=It (w:=w) (G:=G) l _ c a;have f:(Tn x++WE l).getD i xy=(WE l).getD (i-5) xy:=by
   simp[List.getD_eq_getElem?_getD];rw[ZfB (by grind [Tn])];simp[Tn]
  simp_all
def Z5r(l:List Ob):∀x∈l.map ZL,V.ay 5 x:=by
 intro x a;obtain⟨o,_,rfl⟩:=Zfh.1 a;exact⟨rfl,Z1⟩
def Iu{w G B e v l}(h:w.ownsRow B e 5 v (I l)<|WE l)(q:∀c,B<=c->c<xz (xj w)->G c):Rd w G (.sl<|l.map ZL) v:=by
 have a:=h.1;obtain⟨rfl,p⟩|⟨g,cap,j,rfl,r,t,o,d,_⟩:=h.2;have:l=[]:=Ze3;subst this;exact .nil _ _ Ze2
 have:=Rd.sl (w:=w) (G:=G) _ g 0 cap 5 (λi=>(WE l).getD i xy) Ze3 d Ze2 (Z5r l) (λi n=>by
   have f:i< I (WE l):=by rw[a];simpa using n
   rw[ZfL,h.cellAt i Z0];simp[f]) (λi c k=>It l i c k)
 simp_all
def Z9q{ws shs old K n xs W}(a:shs=[])(h:(n=0/\zd ws shs old K xs W)\/((n=2\/n=3)/\xs=[]/\ZM ws shs old=([],n))):ZM ws shs old=(xs,n):=by
 obtain⟨rfl,t,_,h⟩|⟨_,rfl,h⟩:=h;simp_all;exact h
def jo:Rm:=by
 intro W O P;refine⟨Z2,λw G vs L p q=> ?_⟩;have r0:=q 0 _ rfl;obtain⟨⟨l⟩⟩:=vs;simp at p;rename_i v0 l;cases l with
 |cons _ _=>simp at p
 |nil=>
  simp at r0;obtain⟨g,o,cap,C,k,x,N⟩:=P4 r0 L O P<|xz (xj w)+1;have z:=OY (w:=w) (shs:=[]) (old:=xw) (bt:=U) (K:=λt _=>t=0) C k ⟨x,Z0,Z0⟩ (.inl rfl) Z1 Z1 Z18 rfl (λt A B row h _ _=>h) (λQ base t A B _ _ h _=>h);obtain⟨S,T,sc,rfl⟩:∃a n c,v0=.slice a n c:=by
   obtain rfl|⟨_,a,c,rfl⟩:=k;simp;simp
  have D:=Zf0 z;clear z C k r0 q;go_enter Z0n,Try.ntmps66;go_wp2_with (go_at_call 79;refine D.out.mono ?_;rintro e w1 ⟨v,n,X,rfl,f,d,u⟩;have F:=Zf0<|And.intro f<|And.intro d u;clear f d u)
  obtain⟨f,d,u⟩:=F.out;have M:=Z9q rfl u;refine ZfA (v:=.tuple #[v,.int .i64 n]) (by simp[results,Try.results66,go_sem]) rfl ⟨_,rfl,(Zfg _ w).grown f (Zf3 _) (λj e=>by cases e),?_⟩;rw[M];refine .ak _ _ rfl ?_;intro i y r
  match i,r with
  |0,r=>cases r;exact Iu d λc R H=>.inr ⟨Z0,H⟩
  |1,r=>cases r;exact .int _ _
def KpW.cell{j base A B}(h:KpW j base A B){k i c}(hc:A.cell? ⟨k,i,U⟩=J c)(n:k<base)(l:k≠j):B.cell? ⟨k,i,U⟩=J c:=by
 unfold World.cell? at hc;cases d:A.heap[k]? with
 |none=>simp_all
 |some g=>
  have f:g.isCells=xk:=by
   rw[d]at hc;cases g<;>simp_all [Obj.isCells]
  rw[<-hc];exact ZfR (a:=⟨k,i,U⟩)<|(h.same k g d f l Z0).trans d.symm
def KOld.grown{shs bt a t n v A B row}(h:KOld shs bt a v t A)(d:A.grownBy B row)(p:bt<n)(l:a<n)(u:shs≠[]->∀g o cap,v=.slice (J ⟨g,o,U⟩) (I shs) cap->g<n)(q:∀r,row=J r->n<=r):KOld shs bt a v t B:=by
 let⟨f,j,k⟩:=h;exact⟨(d.block _ Ze2 Ze2).trans f,j.grown d Ze2 Ze2,k⟩
def KOld.kp{shs bt d t n j base v A B}(h:KOld shs bt d v t A)(a:KpW j base A B)(u:bt<n)(r:d<n)(w:shs≠[]->∀g o cap,v=.slice (J ⟨g,o,U⟩) (I shs) cap->g<n)(D:n<=j)(h2:n<=base):KOld shs bt d v t B:=by
 let⟨k1,⟨y,z⟩,C⟩:=h;refine⟨a.same _ _ k1 rfl Z0 Z0,⟨a.same _ _ y rfl Z0 Z0,?_⟩,C⟩;obtain⟨g,o,cap,rfl,l,p,q,f⟩|h:=z;refine .inl ⟨g,o,cap,rfl,l,p,Zf4 q a.size,λi x k=> ?_⟩;have:=w (λe=>Ze3) _ _ _ rfl;exact⟨a.cell (f i x k).1 Z0 Z0,a.cell (f i x k).2 Z0 Z0⟩;simp_all
def Words.rf{w W ws g o cap}(h:Words w ws g o cap)(f:ws≠[]->g<xz (xj w))(a:Below (xz<|xj w) w W):Words W ws g o cap:=
 ⟨λi x d=>by rw[a.cell (p:=⟨g,o+i,U⟩) Ze2];exact h.Z i x d,h.le,h.cap,h.len,h.u64⟩
def jn:Rn:=by
 intro C d hl a7 hu b2;refine⟨Z2,λw G vs hG N P=> ?_⟩;have r0:=P 0 _ rfl;have r1:=P 1 _ rfl;obtain⟨⟨l⟩⟩:=vs;simp at N;rename_i v0 l;cases l with
 |nil=>simp at N
 |cons v1 l=>
 cases l with
 |cons _ _=>simp at N
 |nil=>
  simp at r0 r1;obtain⟨g,o,cap,hw,M,R,a0⟩:=P4 r0 hG hl hu<|xz (xj w)+3;have O:=Z8q r1 hG;obtain⟨sa,sn,sc,rfl⟩:∃a n c,v0=.slice a n c:=by
   obtain rfl|⟨_,a,c,rfl⟩:=M;simp;simp
  obtain⟨k,q,rfl⟩:∃a c,v1=.slice a (I d) c:=by
   grind
  have b0:((w.alloc<|.cells #[.slice k (I d) q] 154).alloc<|.cells #[.int .i64 0] 3).heap[xz<|xj w]?=J (.cells #[.slice k (I d) q] 154 (0,0)):=(Zfa _ _ _ Z1).trans<|Zfq w _;have b1:((w.alloc<|.cells #[.slice k (I d) q] 154).alloc<|.cells #[.int .i64 0] 3).heap[xz (xj w)+1]?=J (.cells #[.int .i64 0] 3 (0,0)):=by
   have:=Zfq (w.alloc<|.cells #[.slice k (I d) q] 154)<|.cells #[.int .i64 0] 3;simp_all
  have z:Below (xz<|xj w) w<|(w.alloc<|.cells #[.slice k (I d) q] 154).alloc<|.cells #[.int .i64 0] 3:=((Zfg _ w).alloc (Zf3 _) _).alloc Z1 _;have L:xz (xj<|(w.alloc<|.cells #[.slice k (I d) q] 154).alloc<|.cells #[.int .i64 0] 3)=xz (xj w)+2:=Z1;have a5:d≠[]->∀g o cap,Value.slice k (I d) q=.slice (J ⟨g,o,U⟩) (I d) cap->g<xz (xj w):=by
   intro X g o cap e;obtain⟨g1,Y,c1,e1,_,_,h4,_⟩|⟨_,_,_,h⟩:=O;simp_all;simp_all
  have W:Calls xP 79 #[.slice sa sn sc,.func (.func 80) #[] #[.pointer<|J ⟨xz (xj w)+1,0,U⟩,.pointer<|J ⟨xz<|xj w,0,U⟩]] ((w.alloc<|.cells #[.slice k (I d) q] 154).alloc<|.cells #[.int .i64 0] 3)
    (Et ((w.alloc<|.cells #[.slice k (I d) q] 154).alloc<|.cells #[.int .i64 0] 3) C d xk (J<|xz (xj w)+1)<|KOld d (xz (xj w)+1) (xz<|xj w)<|.slice k (I d) q):=by
   generalize a8:(w.alloc<|.cells #[.slice k (I d) q] 154).alloc (.cells #[.int .i64 0] 3)=W1 at*;have K:d≠[]->∀g o cap,Value.slice k (I d) q=.slice (J ⟨g,o,U⟩) (I d) cap->g<xz (xj W1):=λX g o cap e=>Ze2;refine OY (hw.rf R z) M ⟨λh=>Ze2,Z0,Z0⟩ (.inr ⟨_,_,rfl⟩) (λr e=>Ze2) (λe=>Ze2) (Z19 a7 Z0<|λX g o cap e=>Ze2) ⟨b1,⟨b0,?_⟩,Z0⟩ (λt A B row h hg hr=>h.grown hg (n:=xz<|xj W1) Z0 Z0 K hr) (λbl base t A B h1 h2 h W=>h.kp W (n:=xz<|xj W1) Z0 Z0 K h1 h2);obtain⟨g1,Y,c1,e1,a1,a2,a3,a4⟩|⟨a,c,e1,h⟩:=O;exact .inl ⟨g1,Y,c1,e1,a1,a2,Z0,λi x hx=>⟨(z.cell (p:=⟨g1,Y+i*2,U⟩) a3).trans (a4 i x hx).1,(z.cell (p:=⟨g1,Y+i*2+1,U⟩) a3).trans (a4 i x hx).2⟩⟩;simp_all
  have F:∀w1 v n (Q:List Ob),(v=.slice U 0 0/\Q=[]\/w1.ownsRow (xz (xj w)+6) 105 5 v (I Q) (WE Q))->ZM C d xk=(Q,n)->Rd w1 (λb=>xk=xw/\G b\/xz (xj w)<=b/\b<xz (xj w1)) (.ak [.sl<|(ZM C d xk).1.map ZL,vi (ZM C d xk).2]) (.tuple #[v,.int .i64 n]):=by
   intro w1 v n Q f hW;rw[hW];refine .ak _ _ rfl ?_;intro i y T
   match i,T with
   |0,T=>
    cases T;obtain⟨rfl,rfl⟩|f:=f;exact .nil _ _ (by grind [maxLen]);exact Iu f λc h1 h2=>.inr ⟨Z0,h2⟩
   |1,T=>cases T;exact .int _ _
  have S:Calls xP 79 #[.slice sa sn sc,.func (.func 80) #[] #[.pointer<|J ⟨xz (xj w)+1,0,U⟩,.pointer<|J ⟨xz<|xj w,0,U⟩]] ((w.alloc<|.cells #[.slice k (I d) q] 154).alloc<|.cells #[.int .i64 0] 3) λe w1=>
    (∃(v:Value) (t:Nat),e=.returned (.tuple #[v,.int .i64 0])/\w1.cell? ⟨xz (xj w)+1,0,U⟩=J (.int .i64 t)/\w1.cell? ⟨xz<|xj w,0,U⟩=J (.slice k (I d) q)/\(t:Int)<I d/\Hid (Below (xz<|xj w) w w1/\Rd w1 (λb=>xk=xw/\G b\/xz (xj w)<=b/\b<xz (xj w1)) (.ak [.sl<|(ZM C d xk).1.map ZL,vi (ZM C d xk).2]) (.tuple #[.slice U 0 0,.int .i64 3])))\/
    (∃(v:Value) (t:Nat),e=.returned (.tuple #[v,.int .i64 0])/\w1.cell? ⟨xz (xj w)+1,0,U⟩=J (.int .i64 t)/\w1.cell? ⟨xz<|xj w,0,U⟩=J (.slice k (I d) q)/\¬(t:Int)<I d/\Hid (Below (xz<|xj w) w w1/\Rd w1 (λb=>xk=xw/\G b\/xz (xj w)<=b/\b<xz (xj w1)) (.ak [.sl<|(ZM C d xk).1.map ZL,vi (ZM C d xk).2]) (.tuple #[v,.int .i64 0])))\/
    (∃(v:Value) (n:Int),e=.returned (.tuple #[v,.int .i64 n])/\¬n=0/\Hid (Below (xz<|xj w) w w1/\Rd w1 (λb=>xk=xw/\G b\/xz (xj w)<=b/\b<xz (xj w1)) (.ak [.sl<|(ZM C d xk).1.map ZL,vi (ZM C d xk).2]) (.tuple #[.slice U 0 0,.int .i64 n]))):=by
   refine W.mono ?_;rintro e w1 ⟨v,n,Q,rfl,a6,f,hE⟩;rw[L]at f;have hB:Below (xz<|xj w) w w1:=z.trans<|(Zfg _ _).grown a6 Z0 (λj e=>Ze2);obtain⟨rfl,t,⟨hb,hs,ht⟩,u⟩|⟨X,rfl,u⟩:=hE;have Z:w1.cell? ⟨xz (xj w)+1,0,U⟩=J (.int .i64 t):=by rw[Zf6 _ _ _ _ _ _ hb];rfl
   have q2:w1.cell? ⟨xz<|xj w,0,U⟩=J (.slice k (I d) q):=by rw[Zf6 _ _ _ _ _ _ hs.box];rfl
   by_cases D:t<I d;rw[Zfc D]at u;exact .inl ⟨v,t,rfl,Z,q2,Z0,Zf0 ⟨hB,F w1 _ _ [] (.inl ⟨rfl,rfl⟩) u⟩⟩;rw[Zf7 D]at u;exact .inr<|.inl ⟨v,t,rfl,Z,q2,Z0,Zf0 ⟨hB,F w1 _ _ Q (.inr f) u⟩⟩;exact .inr<|.inr ⟨v,n,rfl,Z0,Zf0 ⟨hB,F w1 _ _ [] (.inl ⟨rfl,rfl⟩) u⟩⟩
  have HK:=Zf0 S;clear hw M r0 r1 P O R a0 W S z b0 b1 a5 L F;go_enter Z0p,Try.ntmps68;have a9:∀(fn:Go.Fn) (first cap:Array Value) (w:World),(Instr.makeFunc fn first cap).run xP w=.ok (.func fn first cap) w:=λ_ _ _ _=>rfl;go_wp2_with (go_at_call 79;refine HK.out.mono ?_;rintro e w1 (⟨v,t,rfl,Z,q2,D,H⟩|⟨v,t,rfl,Z,q2,D,H⟩|⟨v,n,rfl,X,H⟩))
  .refine ZfA (v:=.tuple #[.slice U 0 0,.int .i64 3]) (by simp[results,Try.results68,go_sem]) rfl ⟨_,rfl,H.out.1,H.out.2⟩
  .refine ZfA (v:=.tuple #[v,.int .i64 0]) (by simp[results,Try.results68,go_sem]) rfl ⟨_,rfl,H.out.1,H.out.2⟩
  .refine ZfA (v:=.tuple #[.slice U 0 0,.int .i64 n]) (by simp[results,Try.results68,go_sem]) rfl ⟨_,rfl,H.out.1,H.out.2⟩
end Vm
namespace Vm
open Go Go.Proofs Go.RowKit
def Z5s{w G l v}(r:Rd w G (.sl<|l.map ZL) v)(t:∀b,G b->b<xz (xj w)):
  (∃g o cap,v=.slice (J ⟨g,o,U⟩) (I l) cap/\I l<=cap/\cap<=maxLen/\g<xz (xj w)/\∀i x,l[i]?=J x->w.cell? ⟨g,o+i*5,U⟩=J (.int .i64 x.Z)/\w.cell? ⟨g,o+i*5+1,U⟩=J (.int .i64 x.size)/\
   w.cell? ⟨g,o+i*5+2,U⟩=J (.int .i64 x.ac)/\w.cell? ⟨g,o+i*5+3,U⟩=J (.bool x.gone)/\w.cell? ⟨g,o+i*5+4,U⟩=J (.int .u64 x.target))\/
  (∃a cap,v=.slice a 0 cap/\l=[]):=by
 generalize u:l.map ZL=L at r;cases r with
 |nil a cap F=>
  simp_all
 |sl _ b o cap k vs j n p d q h=>
  subst u;simp only[Zfu]at j q⊢;refine .inl ⟨b,o,cap,rfl,j,n,t b p,λi x y=> ?_⟩;have f:(l.map ZL)[i]?=J (ZL x):=by rw[Zfo,y];rfl
  have K:k=5:=((d _<|Zf5 f).1).symm;have H:i<I l:=Ze2;have z:=h (i*5) (vi x.Z) (by have:=Vx d f 0 Z0;simp_all);have A:=h (i*5+1) (vi x.size) (by have:=Vx d f 1 Z0;simp_all);have B:=h (i*5+2) (vi x.ac) (by have:=Vx d f 2 Z0;simp_all);have C:=h (i*5+3) (.bool x.gone) (by have:=Vx d f 3 Z0;simp_all);have D:=h (i*5+4) (vu x.target) (by have:=Vx d f 4 Z0;simp_all);grind [S6,Nat.add_assoc,Nc]
end Vm
end
section

end
section
namespace Vm
open Go Go.Proofs
def Qn{h:Hp}(a:h.ok):VC xP 10 xw [ZD h]<|.bool<|Yg h:=by
 rw[<-(AZ h).1];exact Ps jo jn a
def Po{h:Hp}(a:h.ok){k:Int}:VC xP 61 xw [ZD h,vi k]<|.ak [.sl<|(Uj h k).1.map ZL,vi (Uj h k).2]:=by
 rw[<-Z4p h k];exact Pq jo jn a
def Dw{h:Hp}(a:h.ok):VC xP 12 xw [ZD h]<|vi<|Sm h:=by
 rw[<-Z4t h];exact Pu jo jn a
def Vz(l:Zk):List<|Int×Int:=(l.filter λo=>o.gone).map λo=>(o.size,o.ac)
def OQ{ws:Z9}{shs:List (Int×Int)}{old:Bool}:∀(l:Zk) (f a k:Nat) (g:Zk),Tiles ws old a l->I ws<f+a->0<f->shs.drop k=Vz l->Xb ws shs old f a k g=(g++l,0)
 | [],f,a,k,g,D,M,K,B=>by
   obtain⟨f,rfl⟩:∃C,f=C+1:=⟨f-1,Z0⟩;have:I ws<=a:=D;have r:I shs<=k:=List.drop_eq_nil_iff.1 B;rw[Xb,ZfP this];simp only;rw[Zf7 Z0,Zhv]
 |o::l,f,a,k,g,D,M,K,B=>by
  obtain⟨f,rfl⟩:∃C,f=C+1:=⟨f-1,Z0⟩;obtain⟨t,r,L⟩:=D;obtain⟨w,F,j⟩:=r.word;have O:=YH.1 r.shape;have u:=r.ay;have q:=r.fk;rw[t]at F u q;simp only[Zfl]at F q;have z:∀d:Nat,shs.drop d=Vz l->Xb ws shs old f (a+1+o.size.toNat) d (g++[o])=(g++o::l,0):=λd p=>by
   rw[OQ l f _ d _ L Z0 Z0 p];simp
  have y:∃d,XR shs old a k w=J (o,d)/\shs.drop d=Vz l:=by
   unfold XR;cases n:o.gone;rw[n]at j;simp only[Zfk,ZfV]at j;rw[Zf7 (λh=>j.1 h.1 h.2),j.2.1];refine⟨k,?_,?_⟩;simp only[ZfT];obtain⟨P,R,op,Q,S⟩:=o;simp only at n t j⊢;rw[n,t,j.2.2];rw[B];simp[Vz,n];rw[n]at j;simp only[ZfT]at j;rw[Zfc ⟨j.1,j.2.1⟩];have A:shs.drop k=(o.size,o.ac)::Vz l:=by rw[B];simp[Vz,n]
   have x:k<I shs:=by
    have:=Zg6 List.length A;simp at this;omega
   rw[Zg4 x]at A;have G:=(List.cons.inj A).1;have H:=(List.cons.inj A).2;rw[ZeX x,G];simp only[r.shape,ZfT];refine⟨k+1,?_,H⟩;obtain⟨P,R,op,Q,S⟩:=o;simp only at n t j⊢;rw[n,t,j.2.2]
  obtain⟨d,N,p⟩:=y;rw[Xb,F];simp only;rw[N];simp only;rw[Zf7 Z0,Zf7 (by rw[q];simp)];exact z d p
def Lx{ws:Z9}{shs:List (Int×Int)}{old:Bool}{l:Zk}(d:Tiles ws old 0 l)(a:shs=Vz l):ZM ws shs old=(l,0):=by
 unfold ZM;rw[OQ l (I ws+1) 0 0 [] d Z0 Z0 ZeM,ZfW]
def JE(h:Hp)(low l:Zk):Prop:=∀o∈l,o.gone=xk->∃q,YD h 1 low o.target=J q/\q.size=o.size/\q.ac=o.ac
def qD{h:Hp}{ws:Z9}{low:Zk}:∀(l:Zk) (f i:Nat) (a:List<|Int×Int),Tiles ws xk i l->I ws<f+i->0<f->JE h low l->WX h ws low f i a=J (a++Vz l)
 | [],f,i,a,u,D,B,r=>by
   obtain⟨f,rfl⟩:∃n,f=n+1:=⟨f-1,Z0⟩;have:I ws<=i:=u;rw[WX,ZfP this];simp[Vz]
 |o::l,f,i,a,u,D,B,r=>by
  obtain⟨f,rfl⟩:∃n,f=n+1:=⟨f-1,Z0⟩;obtain⟨C,p,y⟩:=u;obtain⟨w,x,g⟩:=p.word;have F:=YH.1 p.shape;have j:=p.ay;rw[C]at x j;simp only[Zfl]at x;have k:JE h low l:=λq t=>r q<|ZfF _ t;rw[WX,x];simp only;cases d:o.gone;rw[d]at g;simp only[Zfk,ZfV,true_implies]at g;rw[Zf7 g.1,g.2.1];simp only[ZfT];rw[qD l f _ a y Z0 Z0 k];simp[Vz,d];rw[d]at g;simp only[ZfT,true_and]at g;rw[Zfc g.1];obtain⟨q,t,z,A⟩:=r o (.head _) d;rw[<-g.2,t];simp only;rw[z,A,qD l f _ _ y Z0 Z0 k];simp[Vz,d]
def Z69{h:Hp}{p:Pts}(d:Tiles h.H xw 0 p.H)(h2:Tiles h.aa xw 0 p.aa)(f:Tiles h.an xk 0 p.an)(g:Tiles h.am xk 0 p.am)(q:JE h p.H p.an)(r:JE h p.H p.am):Xz h=J p:=by
 have k:∀ {n:Z9} {a:Nat} {l:Zk},Tiles n xw a l->Vz l=[]:=λ{n a l} x=>by
  unfold Vz;rw[List.map_eq_nil_iff,ZhV];intro o u t;obtain⟨w,_,j⟩:=(x.az o u).1.word;rw[Zfc t]at j;cases j.1
 unfold Xz;rw[Lx d (k d).symm,Lx h2 (k h2).symm];unfold Vo;simp only[Zjb,Ziy,or_self,ZfV];rw[qD p.an _ 0 [] f Z0 Z0 q,qD p.am _ 0 [] g Z0 Z0 r];simp only[ZfW,Zfv];rw[Lx f rfl,Lx g rfl];simp
def Z7x{h:Hp}{p:Pts}(a:TY h=xk)(d:Xz h=J p)(f:R1 h p=xk):Yg h=xk:=by
 unfold Yg;rw[a,d];simpa using f
def Z0X{h:Hp}{k:Int}{l:Zk}{o:Ob}(a:o∈l)(f:∀q∈l,YU h k q.Z=YU h k o.Z->q=o):YD h k l (YU h k o.Z)=J o:=by
 unfold YD;induction l with
 |nil=>simp at a
 |cons x l j=>
  rw[List.find?_cons];by_cases d:YU h k x.Z=YU h k o.Z;rw[f x (.head _) d];simp;have:(YU h k x.Z==YU h k o.Z)=xw:=Zeg;rw[this];obtain rfl|a:=Zfi.1 a;exact absurd rfl d;exact j a λq g=>f q<|ZfF _ g
def Z0W{h:Hp}{k:Int}{l:Zk}{a:Int}:(YD h k l a).isSome=xk↔ ∃o∈l,YU h k o.Z=a:=by
 unfold YD;rw[List.find?_isSome];simp
section
structure Tld (h:Hp) (p:Pts):Prop where
 bj:ZQ (Zv h)=xk
 al:∀k:Int,1<=k/\k<=4->Tiles (Zy h k) (decide (2<k)) 0 (p.at k)
def Gos(h:Hp)(p:Pts)(w one a:Int):Prop:=w=0\/∃k o,(k=one\/k=a)/\o∈p.at k/\w=ZJ (Zv h) k o.Z
def Xg(h:Hp)(p:Pts)(k:Int)(i:Nat)(w:Int):Prop:=if 2<k then Gos h p w 3 4 else if k=1/\h.Y<=i then Gos h p w 1 2\/Gos h p w 3 4 else Gos h p w 1 2
section
variable {h:Hp}{p:Pts}
def Tld.ob(t:Tld h p){k:Int}(g:1<=k/\k<=4){o:Ob}(j:o∈p.at k):∃a n m:Nat,o.Z=a/\o.size=n/\o.ac=m/\a+(n+1)<=I (Zy h k)/\n<=255/\m<=n:=by
 have d:=((t.al k g).az o j).1;have f:=YH.1 d.shape;obtain⟨a,l⟩:=Zfd d.ie;obtain⟨n,r⟩:=Zfd f.1;obtain⟨m,q⟩:=Zfd f.2.2.1;have:=d.ay;grind
def Tld.start(t:Tld h p){k:Int}(d:1<=k/\k<=4){o:Ob}(f:o∈p.at k):YU h k o.Z=fstL (Zv h) k+o.Z:=by
 obtain⟨a,n,m,g,_,_,j,_⟩:=t.ob d f;unfold YU;rw[Qr t.bj d (by grind [US])]
def Tld.de(t:Tld h p){k:Int}(d:1<=k/\k<=4){o q:Ob}(f:o∈p.at k)(g:q∈p.at k)(e:q.Z=o.Z):q=o:=by
 rcases(t.al k d).apart q g o f with a|a|a;exact a;have:=YH.1 ((t.al k d).az q g).1.shape;omega;have:=YH.1 ((t.al k d).az o f).1.shape;omega
def Tld.find(t:Tld h p){k:Int}(a:1<=k/\k<=4){o:Ob}(d:o∈p.at k):YD h k (p.at k) (fstL (Zv h) k+o.Z)=J o:=by
 rw[<-t.start a d];refine Z0X d λq f e=>t.de a d f ?_;rw[t.start a d,t.start a f]at e;omega
theorem Tld.inj(t:Tld h p){k j:Int}(d:1<=k/\k<=4)(f:1<=j/\j<=4){o q:Ob}(g:o∈p.at k)(l:q∈p.at j)(e:ZJ (Zv h) k o.Z=ZJ (Zv h) j q.Z):k=j/\o=q:=by
 obtain⟨a,n,m,x,_,_,z,_⟩:=t.ob d g;obtain⟨b,B,A,y,_,_,w,_⟩:=t.ob f l;obtain⟨r,u⟩:=Z7g t.bj d f (by grind [US]) (by grind [US]) e;subst r;exact⟨rfl,t.de d l g u⟩
def Tld.kw(t:Tld h p){k:Int}(d:1<=k/\k<=4){o:Ob}(f:o∈p.at k):adr (ZJ (Zv h) k o.Z)=(fstL (Zv h) k+o.Z,0):=by
 obtain⟨a,n,m,g,_⟩:=t.ob d f;exact Ss t.bj Z0
def Tld.ui(t:Tld h p){k:Int}(d:1<=k/\k<=4){o:Ob}(f:o∈p.at k):ZJ (Zv h) k o.Z≠0:=by
 obtain⟨a,n,m,g,_⟩:=t.ob d f;exact qe t.bj Z0
def Tld.mz(t:Tld h p){k:Int}(d:1<=k/\k<=4){w:Int}(f:(Vm.adr w).2=0):(YD h k (p.at k) (Vm.adr w).1).isSome=xk↔ ∃o∈p.at k,w=ZJ (Zv h) k o.Z:=by
 rw[Z0W];constructor;rintro⟨o,a,e⟩;rw[t.start d a]at e;exact⟨o,a,P3 f e.symm⟩;rintro⟨o,a,rfl⟩;exact⟨o,a,by rw[t.kw d a,t.start d a]⟩
def Tld.di(t:Tld h p){i j:Int}(g:1<=i/\i<=4)(l:1<=j/\j<=4){w:Int}:Ww h p w i j=xk↔Gos h p w i j:=by
 unfold Ww Gos;by_cases d:w=0;simp[d];by_cases a:(Vm.adr w).2=0;simp only[d,a,Zj7,Zip,Ziz,ZhI,Zfe,false_or,t.mz g a,t.mz l a];simp;simp only[d,a,Zip,Zi0,Bool.or_self,Zfk,false_or,false_iff];rintro⟨k,o,n,q,rfl⟩;have f:1<=k/\k<=4:=by obtain rfl|rfl:=n<;>assumption
 exact a (by rw[t.kw f q])
def O7:∀ {l:Z9} {a:Int} {i:Nat},Xf l xk a i=xk->∀w∈l,w=0
 | [],_,_,_,w,d=>by simp at d
 |y::l,a,i,f,w,d=>by
  simp only[Xf,ZeZ]at f;obtain rfl|d:=Zfi.1 d;have g:=f.1;simp at g;exact g.1;exact O7 f.2 w d
def Tld.uc(t:Tld h p){k:Int}(d:1<=k/\k<=4){o:Ob}(f:o∈p.at k){j:Nat}(x:(j:Int)<o.size):∃w,(Zy h k)[o.Z.toNat+1+j]?=J w/\(o.gone=xk->w=0):=by
 obtain⟨a,n,m,l,u,z,y,_⟩:=t.ob d f;have r:a+1+j< I (Zy h k):=Z0;refine⟨(Zy h k)[a+1+j],Ze3,λq=> ?_⟩;have g:=((t.al k d).az o f).1.fk;rw[q]at g;refine O7 g _ ?_;rw[l,u,Zfl,Zfl];refine Zf5 (i:=j) ?_;simp_all
end
structure Body (h:Hp) (p:Pts):Prop extends Tld h p where
 gone:∀k:Int,3<=k/\k<=4->∀o∈p.at k,o.gone=xk->∃q∈p.H,o.target=fstL (Zv h) 1+q.Z/\q.size=o.size/\q.ac=o.ac
 ptr:∀k:Int,1<=k/\k<=4->∀o∈p.at k,o.gone=xw->∀j:Nat,(j:Int)<o.ac->∀w,(Zy h k)[o.Z.toNat+1+j]?=J w->Xg h p k (o.Z.toNat+1+j) w
 room:(I h.H:Int)+I h.aa+Yh p<=h.cap
structure Rt (h:Hp) (p:Pts):Prop extends Body h p where
 du:I h.E<=16
 ei:0<=h.Y
 dn:h.Y<=I h.H
 kz:h.M=xk->h.Y<I h.H
 rest:h.M=xw->h.Y=I h.H/\h.an=[]/\h.am=[]
 fa:h.M=xk->∀o∈p.H,UU p (fstL (Zv h) 1+o.Z)=1
 E:∀w∈h.E,Gos h p w 1 2
section
variable {h:Hp}{p:Pts}
def DM(t:Tld h p){k:Int}{i:Nat}{w:Int}(a:(Zy h k)[i]?=J w):Ts h p k i=xk↔Xg h p k i w:=by
 unfold Ts Xg;simp only[a,Zfv];split;exact t.di Z0 Z0;split;rw[Zfe,t.di Z0 Z0,t.di Z0 Z0];exact t.di Z0 Z0
theorem DN(k:Int)(i:Nat):Xg h p k i 0:=by
 unfold Xg;split;exact .inl rfl;split;exact .inl<|.inl rfl;exact .inl rfl
def MW(t:Tld h p){k:Int}(g:1<=k/\k<=4):WJ h p k=xk↔ ∀o∈p.at k,o.gone=xw->∀j:Nat,(j:Int)<o.ac->∀w,(Zy h k)[o.Z.toNat+1+j]?=J w->Xg h p k (o.Z.toNat+1+j) w:=by
 unfold WJ Bq;simp only[Zfb,Zi2];constructor;intro l o d _ j q w f;exact(DM t f).1 (l o d j Z0);intro l o d j q;obtain⟨a,n,m,r,y,x,u,_⟩:=t.ob g d;obtain⟨w,f,z⟩:=t.uc g d (j:=j) Z0;refine(DM t f).2 ?_;grind [DN]
def RightH.ur(r:RightH h p):Tld h p:=⟨r.bj,λk a=>r.al a⟩
def RightH.rt(r:RightH h p):Rt h p:=by
 have t:=r.ur;have j:=r.num;have a:=r.ok;unfold TY at j;unfold R1 at a;simp only[ZeZ,Zfp]at j a;obtain⟨⟨⟨⟨G,A⟩,B⟩,C⟩,H⟩:=j;obtain⟨⟨⟨⟨⟨⟨l,D⟩,K⟩,L⟩,M⟩,N⟩,F⟩:=a;have f:∀k:Int,1<=k/\k<=4->WJ h p k=xk:=λk d=>by
  have:k=1\/k=2\/k=3\/k=4:=Z0;grind
 refine⟨⟨t,λk d o a y=> ?_,λk d=>(MW t d).1<|f k d,F⟩,A,B,C,λg=> ?_,λg=> ?_,λg o a=> ?_,λw z=> ?_⟩;obtain⟨q,n,e,u,x⟩:=r.nn d a y;exact⟨q,n,by rw[<-e,t.start (k:=1) Z0 n],u,x⟩;simp_all;simp_all;rw[g]at l;simp only[Zi9,Ziz,Zfb]at l;have:=l o a;unfold Qi at this;rw[t.start (k:=1) Z0 a]at this;simp_all;exact(t.di Z0 Z0).1 (Zfb.1 D w z)
def Rt.gp(r:Rt h p):Xz h=J p:=by
 have g:∀k:Int,3<=k/\k<=4->JE h p.H (p.at k):=λk j o l f=>by
  obtain⟨q,n,e,a,d⟩:=r.gone k j o l f;exact⟨q,by rw[e];exact r.toTld.find (k:=1) Z0 n,a,d⟩
 exact Z69 (r.al 1 Z0) (r.al 2 Z0) (r.al 3 Z0) (r.al 4 Z0) (g 3 Z0)<|g 4 Z0
theorem Rt.right(r:Rt h p):Yg h=xk:=by
 have t:=r.toTld;refine Z7x ?_ r.gp ?_;unfold TY;simp only[ZeZ,Zfp];refine⟨⟨⟨⟨r.bj,r.du⟩,r.ei⟩,r.dn⟩,?_⟩;cases a:h.M;obtain⟨l,n,q⟩:=r.rest a;simp_all;simp[r.kz a];unfold R1;simp only[ZeZ,Zfp];have d:=λk f=>(MW t f).2<|r.ptr k f;refine⟨⟨⟨⟨⟨⟨?_,?_⟩,d 1 Z0⟩,d 2 Z0⟩,d 3 Z0⟩,d 4 Z0⟩,r.room⟩;cases a:h.M;rfl;simp only[Zi9,Ziz,Zfb];intro o g;unfold Qi;rw[t.start (k:=1) Z0 g,Zfp];exact r.fa a o g;rw[Zfb];exactλw j=>(t.di Z0 Z0).2<|r.E w j
def Jl:Yg h=xk↔ ∃p,Rt h p:=
 ⟨λa=>by obtain⟨p,r⟩:=Z7v a;exact⟨p,r.rt⟩,λ⟨p,r⟩=>r.right⟩
def Rt.fu{q:Pts}(r:Rt h p)(s:Rt h q):q=p:=by
 have:=r.gp;rw[s.gp]at this;simp_all
def Rt.tu(r:Rt h p){k:Int}(a:1<=k/\k<=4):Uj h k=(p.at k,0):=by
 unfold Uj;rw[Zfc ⟨r.right,a⟩,r.gp];rfl
def Rt.mf(r:Rt h p):Sm h=Yh p:=by
 unfold Sm;rw[Zfc r.right,r.gp];rfl
end
end
section
def WA(l:Zk):Nat:=(l.map λo=>1+o.size.toNat).sum
def Tiles.sum{ws old}:∀ {a} {l:Zk},Tiles ws old a l->a<=I ws->a+WA l=I ws
 |a,[],h,d=>by have:I ws<=a:=h;simp[WA];omega
 |a,o::l,h,d=>by
  have g:=YH.1 h.2.1.shape;have f:=h.2.1.ay;rw[h.1]at f;have:=Tiles.sum h.2.2 Z0;simp[WA]at this⊢;omega
def Tiles.km{ws old l}(h:Tiles ws old (I ws) l):l=[]:=by
 obtain _|⟨o,l⟩:=l;rfl;have d:=YH.1 h.2.1.shape;have a:=h.2.1.ay;rw[h.1]at a;omega
def Tiles.th{ws d old}:∀ {a} {l j:Zk},Tiles ws old a l->Tiles d old a j->(∀i,i<I ws->d[i]?=ws[i]?)->I ws<=I d->
  (∀o∈l,∀q∈j,o.gone=xk->q.gone=xk->o.target=q.target->o.size=q.size/\o.ac=q.ac)->a<=I ws->∃r,j=l++r/\Tiles d old (I ws) r
 |a,[],j,h,k,_,_,_,p=>by
  have:I ws<=a:=h;grind
 |a,o::l,[],h,k,_,z,_,p=>by
  have H:=YH.1 h.2.1.shape;have t:=h.2.1.ay;have e:=h.1;have:I d<=a:=k;omega
 |a,o::l,q::j,h,k,A,z,G,p=>by
  let⟨B,n,C⟩:=h;let⟨k1,M,N⟩:=k;have H:=YH.1 n.shape;have t:=n.ay;let⟨w,g,D⟩:=n.word;let⟨u,f,F⟩:=M.word;rw[B]at g t;rw[k1]at f;simp[Zfl]at g f;rw[A a Z0,g]at f;have e:o=q:=by
   let⟨S,T,op,O,W⟩:=o;let⟨X,Z,Y,P,qt⟩:=q;cases O<;>cases P<;>simp at D F
   simp_all;simp_all;simp_all;simp_all
  subst e;let⟨r,Q,R⟩:=Tiles.th C N A z (λx K y L=>G x (.tail _ K) y<|.tail _ L) Z0;simp_all
def Tiles.fu{ws old l a}(h:Tiles ws old 0 l)(h':Tiles ws old 0 a)(g:∀o∈l,∀q∈a,o.gone=xk->q.gone=xk->o.target=q.target->o.size=q.size/\o.ac=q.ac):a=l:=by
 let⟨r,d,f⟩:=h.th h' Z1 Z0 g Z0;rw[d,f.km,Zhv]
def Tiles.cr{ws a l}(h:Tiles ws xw a l):∀o∈l,o.gone=xw:=λo d=>by
 let⟨w,_,f⟩:=(h.az o d).1.word;simp_all
def Tiles.td{ws l f}(h:Tiles ws xw 0 l)(h':Tiles ws xw 0 f):=h.fu h' λo d q g a=>by rw[h.cr o d]at a;cases a
def Am(l:Zk):Nat:=(l.map λo=>if o.gone then 1+o.size.toNat else 0).sum
def Dk l:Y6 l+Am l=WA l:=by
 induction l with
 |nil=>rfl
 |cons o l a=>
  simp[Y6,Am,WA,Wg]at a⊢;cases o.gone<;>simp<;>omega
def Z91{L:Zk}{f}(h:∀o∈L,f o=0):(L.map f).sum=0:=by
 induction L with
 |nil=>rfl
 |cons x L a=>simp_all
section
variable {h:Hp}{p:Pts}
def Tld.ij(t:Tld h p){o}(d:o∈p.H):0<=o.Z/\o.Z<I h.H:=by
 let⟨a,n,m,f,_,_,g,_⟩:=t.ob (k:=1) Z0 d;grind [VG]
def Tiles.dx{ws old}:∀ {a} {l:Zk},Tiles ws old a l->l.Pairwise λx y=>x.Z<y.Z
 |_,[],_=>.nil
 |a,o::l,h=>by
  refine .cons (λy d=> ?_)<|Tiles.dx h.2.2;have:=(Tiles.az h.2.2 y d).2;rw[h.1];omega
def Tiles.nil{old l}(h:Tiles [] old 0 l):=Tiles.km (ws:=[]) h
def Rt.empty(r:Rt h p)(hc:h.M=xw):p.an=[]/\p.am=[]:=by
 let⟨_,f,g⟩:=r.rest hc;have a:=r.al 3 Z0;have d:=r.al 4 Z0;simp[f,g]at a d;exact⟨a.nil,d.nil⟩
def Gos.uj(t:Tld h p){w i j}(r:1<=i/\i<=4)(u:1<=j/\j<=4)(l:Gos h p w i j):w=0\/∃k,1<=k/\k<=4/\(k=i\/k=j)/\∃o∈p.at k,(adr w).2=0/\(adr w).1=fstL (Zv h) k+o.Z/\o.Z<X7 (Zv h) k/\0<=o.Z:=by
 obtain rfl|⟨k,o,g,f,rfl⟩:=l;omega;have d:1<=k/\k<=4:=by obtain rfl|rfl:=g<;>assumption
 let⟨a,n,m,q,_,_,x,_⟩:=t.ob d f;exact .inr ⟨k,d.1,d.2,g,o,f,by rw[t.kw d f],by rw[t.kw d f],by grind [US],Z0⟩
end
end
section
section
variable {h:Hp}{p:Pts}
def Body.kj(r:Body h p){k:Int}(d:1<=k/\k<=2){o:Ob}(f:o∈p.at k):Vm.fwd h (ZJ (Zv h) k o.Z)=(ZJ (Zv h) k o.Z,h,0):=by
 obtain⟨a,n,m,g,_,_,j,_⟩:=r.toTld.ob Z0 f;exact Vm.fwd_here r.bj d ⟨Z0,Z0⟩
def Body.kh(r:Body h p){k:Int}(q:3<=k/\k<=4){o:Ob}(g:o∈p.at k)(l:o.gone=xk):Vm.fwd h (ZJ (Zv h) k o.Z)=(2*o.target+1,h,0):=by
 obtain⟨a,n,m,f,_,_,t,_⟩:=r.toTld.ob Z0 g;obtain⟨u,j,d⟩:=((r.al k Z0).az o g).1.word;rw[Zfc l]at d;rw[f,Zfl]at j;rw[f,Vm.fwd_gone r.bj q j d.2.1,P3 d.2.1 d.2.2.symm]
def Body.gm(r:Body h p){k:Int}(t:3<=k/\k<=4){o:Ob}(f:o∈p.at k)(q:o.gone=xw){a n:Nat}(j:o.Z=a)(l:o.size=n):
  Vm.fwd h (ZJ (Zv h) k o.Z)=(ZJ (Zv h) 1<|I h.H,Yc h k a<|n+1,0)/\((n+1:Nat):Int)<=XG (Zv h):=by
 obtain⟨z,y,m,A,B,_,C,_⟩:=r.toTld.ob Z0 f;have:z=a:=Z0;subst this;have:y=n:=Z0;subst this;obtain⟨u,x,d⟩:=((r.al k Z0).az o f).1.word;rw[Zf7 (by simp[q])]at d;rw[j,Zfl]at x;have D:=r.room;have g:=Z9o t f;unfold Wg at g;rw[q,l]at g;simp at g;have e:XG (Zv h)=h.cap-I h.H-I h.aa:=by unfold XG;rw[Zfc r.bj];rfl
 have w:((y+1:Nat):Int)<=XG (Zv h):=Z0;rw[j];exact⟨Vm.fwd_wait r.bj t x (d.1<|decide_eq_true Z0) (by rw[d.2.1,l]) C w,w⟩
end
def yk(h:Hp){k:Int}(d:3<=k/\k<=4)(a n:Nat):(Yc h k a n).H=h.H++((Zy h k).take<|a+n).drop a/\(Yc h k a n).aa=h.aa/\Zy (Yc h k a n) k=(zr (Zy h k) a n).set a (ZJ (Zv h) 1<|I h.H)/\Zy (Yc h k a n) (7-k)=Zy h (7-k)/\
  (Yc h k a n).E=h.E/\(Yc h k a n).Y=h.Y/\(Yc h k a n).M=h.M/\(Yc h k a n).cap=h.cap/\(Yc h k a n).base=h.base/\(Yc h k a n).to=h.to:=by
 have:k=3\/k=4:=Z0;obtain rfl|rfl:=this<;>exact⟨rfl,rfl,rfl,rfl,rfl,rfl,rfl,rfl,rfl,rfl⟩
end
def Z9e{s p}(h:Yq s p=xk):ZN (X5 s p).1=(s,p,0):=by
 have a:=YH.1 h;unfold X5;unfold ZN;grind
def Qf{gone ptrs}:∀ {l} {i:Nat},(∀j w,l[j]?=J w->(gone=xk->w=0)/\(((i+j:Nat):Int)<ptrs->UH w=xk))->Xf l gone ptrs i=xk
 | [],_,_=>rfl
 |w::l,i,h=>by
  let⟨d,f⟩:=h 0 w rfl;have g:Xf l gone ptrs (i+1)=xk:=Qf λj y a=>by
   have:=h (j+1) y a;grind
  rw[Xf];grind
section
def Lq{gone:Bool}{ptrs:Int}:∀ {l:Z9} {i:Nat},Xf l gone ptrs i=xk->∀(j:Nat) (w:Int),l[j]?=J w->(gone=xk->w=0)/\(((i+j:Nat):Int)<ptrs->UH w=xk)
 | [],_,_,j,w,a=>by simp at a
 |y::l,i,d,j,w,a=>by
  simp only[Xf,ZeZ]at d;cases j with
  |zero=>
   simp at a;subst a;obtain⟨⟨f,g⟩,_⟩:=d;refine⟨λh=> ?_,λk=> ?_⟩;rw[h]at f;simpa using f;simpa[show(i:Int)<ptrs by omega]using g
  |succ j=>
   have:=Lq d.2 j w ZeM;rw[show i+1+j=i+(j+1)by omega]at this;exact this
def Stands.congr{ws a:Z9}{old:Bool}{o:Ob}(s:Stands ws old o)(n:I a=I ws)(k:a[o.Z.toNat]?=ws[o.Z.toNat]?)
  (g:∀j:Nat,(j:Int)<o.size->a[o.Z.toNat+1+j]?=ws[o.Z.toNat+1+j]? \/(o.gone=xw/\o.ac<=j)):Stands a old o:=by
 refine⟨s.ie,s.shape,by rw[n];exact s.ay,Qf λj w f=> ?_,by rw[k];exact s.word⟩;have d:j<o.size.toNat:=by
  have:=(ZeW.1 f).1;simp at this;omega
 rw[ZfC d,Zfn]at f;obtain g|⟨l,p⟩:=g j Z0;rw[g]at f;refine Lq s.fk j w ?_;rw[ZfC d,Zfn];exact f;exact⟨λh=>(by rw[l]at h;cases h),λh=>Z0⟩
def Tiles.congr{ws d:Z9}{old:Bool}:∀ {a:Nat} {l:Zk},Tiles ws old a l->I d=I ws->(∀o∈l,Stands d old o)->Tiles d old a l
 |a,[],h,f,_=>by show I d<=a;rw[f];exact h
 |a,o::l,h,f,g=>⟨h.1,g o<|.head _,Tiles.congr h.2.2 f λx j=>g x<|.tail _ j⟩
section
variable {h g:Hp}{p:Pts}
def DD(a:Zv g=Zv h){w i j:Int}:Gos g p w i j↔Gos h p w i j:=by
 unfold Gos;rw[a]
def Tiles.place{ws:Z9}{old:Bool}:∀ {a:Nat} {l:Zk},Tiles ws old a l->∀ {i:Nat} {o:Ob},l[i]?=J o->o.Z=((a+WA (l.take i):Nat):Int)
 |_,[],_,i,o,d=>by simp at d
 |a,x::l,f,0,o,d=>by simp at d;subst d;rw[f.1];simp[WA]
 |a,x::l,f,i+1,o,d=>by
  have:=f.2.2.place (i:=i) (o:=o) Zeg;rw[this];simp[WA];omega
def Z93{l:Zk}{i:Nat}{o:Ob}(a:l[i]?=J o):WA (l.take<|i+1)=WA (l.take i)+(1+o.size.toNat):=by
 unfold WA;rw[Zgt,a,Zgf,Zih];simp
def Yl(base cap:Int)(n:Nat):Hp:=⟨base,cap,0,xw,0,[],[],[],[],List.replicate n 0⟩
def zA{base cap:Int}{n:Nat}(j:0<=cap)(h2:cap<=4096)(q:1<=base)(r:base<=9223372036854775808-2*cap)(l:n<=16):Rt (Yl base cap n) ⟨[],[],[],[]⟩:=by
 have a:∀k,(⟨[],[],[],[]⟩:Pts).at k=[]:=λk=>by unfold Pts.at;split<;>(try split)<;>(try split)<;>rfl
 have f:∀k,Zy (Yl base cap n) k=[]:=λk=>by unfold Zy;split<;>(try split)<;>(try split)<;>rfl
 refine⟨⟨⟨XL.2 (by simp[Zv,Yl];omega),λk g=> ?_⟩,λk g o d=> ?_,λk g o d=> ?_,?_⟩,by simpa[Yl]using l,by simp[Yl],by simp[Yl],λh=>by simp[Yl]at h,λ_=>⟨rfl,rfl,rfl⟩,λh=>by simp[Yl]at h,λw p=>.inl ?_⟩;rw[a,f];exact Zf3 _;rw[a]at d;simp at d;rw[a]at d;simp at d;simp[Yl,Yh,Y6];exact j;exact(ZhN.1 p).2
end
end
section
def Pm{ws a}:∀ {n j},j<n->a+n<=I ws->(zr ws a n)[a+j]?=J 0
 |0,_,h,_=>Z0
 |n+1,j,h,d=>by
  rw[zr];by_cases e:j=n;subst e;rw[Zg7 (by rw[jb];omega)];rw[ZfX Z0];exact Pm Z0 Z0
def Stands.app{ws r old o}(s:Stands ws old o):Stands (ws++r) old o:=by
 have k:=YH.1 s.shape;have g:=s.ay;have h:=s.ie;have f:(ws++r)[o.Z.toNat]?=ws[o.Z.toNat]? :=Ze2;refine⟨s.ie,s.shape,Ze4,Qf λj w d=> ?_,by rw[f];exact s.word⟩;have a:j<o.size.toNat:=by
  have:=(ZeW.1 d).1;simp at this;omega
 rw[ZfC a,Zfn,ZfI Z0]at d;refine Lq s.fk j w ?_;simp_all
def Tiles.append{ws r old}:∀ {a} {l d:Zk},Tiles ws old a l->a<=I ws->Tiles (ws++r) old (I ws) d->Tiles (ws++r) old a (l++d)
 |a,[],d,h,g,f=>by
  have:I ws<=a:=h;have:a=I ws:=Z0;subst this;exact f
 |a,o::l,d,h,g,f=>by
  have k:=YH.1 h.2.1.shape;have j:=h.2.1.ay;have e:=h.1;exact⟨h.1,h.2.1.app,Tiles.append h.2.2 Z0 f⟩
theorem Tiles.map{ws d old f}(g:∀o,(f o).Z=o.Z/\(f o).size=o.size)(j:I d=I ws):∀ {a} {l:Zk},Tiles ws old a l->(∀o∈l,Stands d old<|f o)->Tiles d old a (l.map f)
 |a,[],h,_=>by show I d<=a;rw[j];exact h
 |a,o::l,h,k=>⟨by rw[(g o).1];exact h.1,k o<|.head _,by rw[(g o).2];exact Tiles.map g j h.2.2 λx n=>k x<|.tail _ n⟩
def WT(a t:Int)(q:Ob):Ob:=if q.Z=a then {q with gone:=xk,target:=t}else q
theorem QO a t q:(WT a t q).Z=q.Z/\(WT a t q).size=q.size/\(WT a t q).ac=q.ac:=by
 unfold WT;grind
theorem UE{a t q}(h:q.Z≠a):WT a t q=q:=Zf7 h
theorem Ud{a t q}(h:q.Z=a):WT a t q= {q with gone:=xk,target:=t}:=Zfc h
def Pts.mv(p:Pts)(k:Int)(o:Ob)(L:Nat)(t:Int):Pts:=⟨p.H++[⟨L,o.size,o.ac,xw,0⟩],p.aa,if k=3 then p.an.map (WT o.Z t)else p.an,if k=3 then p.am else p.am.map<|WT o.Z t⟩
section
variable {h:Hp}{p:Pts}
def J1{k}(a:3<=k/\k<=4)o L t:(p.mv k o L t).at 1=p.H++[⟨L,o.size,o.ac,xw,0⟩]/\(p.mv k o L t).at 2=p.aa/\(p.mv k o L t).at k=(p.at k).map (WT o.Z t)/\(p.mv k o L t).at (7-k)=p.at (7-k):=by
 have:k=3\/k=4:=Z0;obtain rfl|rfl:=this<;>exact⟨rfl,rfl,rfl,rfl⟩
def Z53{k}(d:3<=k/\k<=4){o L t j}(u:1<=j/\j<=4){q}(w:q∈p.at j):∃a∈(p.mv k o L t).at j,a.Z=q.Z/\a.size=q.size/\a.ac=q.ac/\(a.gone=xw->a=q)/\(j<3->a=q):=by
 let⟨h,l,n,r⟩:=J1 (p:=p) d o L t;by_cases f:j=1;subst f;exact⟨q,Ze3,rfl,rfl,rfl,Z1,Z1⟩;by_cases g:j=2;subst g;exact⟨q,Ze3,rfl,rfl,rfl,Z1,Z1⟩;grind [WT,List.mem_map_of_mem,QO,Ud,UE]
def Z52{g k}(f:3<=k/\k<=4){o L t}(r:∀j b,ZJ (Zv g) j b=ZJ (Zv h) j b){w i j}(x:1<=i/\i<=4)(y:1<=j/\j<=4)(d:Gos h p w i j):Gos g (p.mv k o L t) w i j:=by
 obtain rfl|⟨m,q,l,n,rfl⟩:=d;exact .inl rfl;let⟨u,a,e,_⟩:=Z53 (p:=p) f (o:=o) (L:=L) (t:=t) (j:=m) Z0 n;exact .inr ⟨m,u,l,a,by rw[r,e]⟩
def Pf{l o t}(d:l.Pairwise λx y=>x.Z<y.Z)(a:o∈l)(h:o.gone=xw):Y6 (l.map<|WT o.Z t)+(1+o.size.toNat)=Y6 l:=by
 induction l with
 |nil=>simp at a
 |cons x l g=>
  rw[Zio]at d;simp only[Y6,Zft]at g⊢;obtain rfl|a:=Zfi.1 a
  .have:l.map (WT o.Z t)=l:=by
    conv=>rhs;rw[<-Zj5 l]
    refine Zgp λy f=>UE ?_;have:=d.1 y f;omega
   rw[Ud rfl];grind [Wg]
  grind [UE]
def Body.move(r:Body h p)(b6:h.Y<=I h.H){k}(G:3<=k/\k<=4){o}(P:o∈p.at k)(hg:o.gone=xw){a n:Nat}(ea:o.Z=a)(N:o.size=n):
  Body (Yc h k a<|n+1) (p.mv k o (I h.H)<|fstL (Zv h) 1+I h.H):=by
 obtain⟨B,D,m,a7,a9,em,K,b3,b2⟩:=r.toTld.ob (k:=k) Z0 P;have:B=a:=Z0;subst this;have:D=n:=Z0;subst this;obtain⟨_,hm⟩:=r.gm G P hg ea N;obtain⟨m1,m2,m3,m4,m5,m6,m7,m8,m9,b8⟩:=yk h G B<|D+1;have Z:=Bf G (g:=h) K;have mr:=Z4W r.bj G K hm;have hr:=Z7h G K;have hw:∀ {j:Int} {b:Nat},3<=j/\j<=4->(j≠k\/b<B\/B+(D+1)<=b)->(Zy (Yc h k B<|D+1) j)[b]?=(Zy h j)[b]? :=λC hb=>Bh G Z0 C hb;have O:∀ {j:Int},3<=j/\j<=4->I (Zy (Yc h k B<|D+1) j)=I (Zy h j):=λC=>Bg G C;have R:fstL (Zv<|Yc h k B<|D+1) 1=fstL (Zv h) 1:=by rw[Z];rfl
 have X:∀i,i<D+1->(((Zy h k).take<|B+(D+1)).drop B)[i]?=(Zy h k)[B+i]? :=Ze3;have a4:I (((Zy h k).take<|B+(D+1)).drop B)=D+1:=Ze4;obtain⟨e1,e2,e3,e4⟩:=J1 (p:=p) G o (I h.H)<|fstL (Zv h) 1+I h.H;have H:=((r.al k Z0).az o P).1;obtain⟨u,hu,hc⟩:=H.word;rw[Zf7 (by simp[hg])]at hc;rw[ea,Zfl]at hu;generalize b1:Yc h k B (D+1)=g at*;generalize a6:((Zy h k).take<|B+(D+1)).drop B=ws at*;have a1:∀q∈p.at k,q.Z≠o.Z->∀i:Nat,(i:Int)<=q.size->q.Z.toNat+i<B\/B+(D+1)<=q.Z.toNat+i:=by
  intro q d S i A;obtain⟨b,l,_,eb,el,_⟩:=r.toTld.ob (k:=k) Z0 d;rcases(r.al k Z0).apart q d o P with e|e|e;simp_all;left;omega;omega
 have F:∀q∈p.at k,q.Z≠o.Z->∀i:Nat,(i:Int)<=q.size->(Zy g k)[q.Z.toNat+i]?=(Zy h k)[q.Z.toNat+i]? :=λq d S i A=>hw G<|.inr<|a1 q d S i A;have a0:∀b,(Zy g<|7-k)[b]?=(Zy h<|7-k)[b]? :=λb=>hw Z0 Z0;have T:Stands (h.H++ws) xw ⟨I h.H,o.size,o.ac,xw,0⟩:=by
  refine⟨Z1,H.shape,Ze4,Qf λj w C=>⟨Z1,λW=> ?_⟩,u,?_,?_⟩;have L:j<D:=by
   have:=(ZeW.1 C).1;simp[N]at this;omega
  simp only[N,Zfl]at C;rw[ZfC L,Zfn,ZfB Z0,show I h.H+1+j-I h.H=1+j by omega,X _ Z0]at C;refine(Lq H.fk j w ?_).2 W;rw[ea,N,Zfl,Zfl,ZfC L,Zfn,<-C,Zg3];simp only[Zfl];grind;grind
 have a5:=Vy r.bj 1;refine⟨⟨mr,λj C=> ?_⟩,λj C q d z=> ?_,λj C q d z i A w f=> ?_,?_⟩;by_cases j1:j=1;subst j1;rw[e1];simp only[VG,m1];exact(r.al 1 Z0).append Z0 ⟨rfl,T,by show I (h.H++ws)<=_;simp[N,a4];omega⟩;by_cases j2:j=2;subst j2;rw[e2];simp only[BM,m2];exact r.al 2 Z0;by_cases Y:j=k;subst Y;rw[e3];refine(r.al j Z0).map (λq=>⟨(QO _ _ q).1,(QO _ _ q).2.1⟩) (O G) λq d=> ?_;by_cases e:q.Z=o.Z;have:q=o:=r.toTld.de Z0 P d e;subst this;rw[Ud rfl];refine⟨H.ie,H.shape,Ze2,Qf λi w A=> ?_,ZJ (Zv h) 1<|I h.H,?_,?_⟩;have L:i<D:=by
  have:=(ZeW.1 A).1;simp[N]at this;omega
 simp only[ea,N,Zfl]at A;rw[ZfC L,Zfn,m3,ZfX Z0,Zg3,Pm Z0 K]at A;cases A;exact⟨Z0,λ_=>rfl⟩;grind [Int.toNat_natCast,List.getElem?_set_self,jb];simp only[ZfT];rw[Ss r.bj Z0];grind;rw[UE e];refine((r.al j Z0).az q d).1.congr (O G) (by simpa using F q d e 0 (by have:=YH.1 ((r.al j Z0).az q d).1.shape;omega)) λi A=>.inl ?_;rw[Zg3];exact F q d e (1+i) Z0;have:j=7-k:=Z0;subst this;rw[e4,m4];exact r.al (7-k) Z0;by_cases Y:j=k;subst Y;rw[e3,Zfh]at d;obtain⟨x,Q,rfl⟩:=d;by_cases e:x.Z=o.Z;have:x=o:=r.toTld.de Z0 P Q e;subst this;rw[Ud rfl];exact⟨_,Zh4 _<|.head _,by rw[R],rfl,rfl⟩;rw[UE e]at z⊢;obtain⟨y,hy,y1,y2,y3⟩:=r.gone j C x Q z;exact⟨y,Zg9 _ hy,Z0,y2,y3⟩;have:j=7-k:=Z0;subst this;rw[e4]at d;obtain⟨y,hy,y1,y2,y3⟩:=r.gone _ C q d z;exact⟨y,Zg9 _ hy,Z0,y2,y3⟩;have b0:∀ {w i j:Int},1<=i/\i<=4->1<=j/\j<=4->Gos h p w i j->Gos g (p.mv k o (I h.H)<|fstL (Zv h) 1+I h.H) w i j:=λA C=>Z52 G hr A C;have M:∀ {j:Int} {i:Nat} {w:Int},Xg h p j i w->Xg g (p.mv k o (I h.H)<|fstL (Zv h) 1+I h.H) j i w:=λ{j i w} W=>by
  unfold Xg at W⊢;rw[m6];by_cases c1:2<j;grind;rw[Zf7 c1]at W⊢;by_cases c2:j=1/\h.Y<=i;grind;rw[Zf7 c2]at W⊢;grind
 by_cases j1:j=1;subst j1;rw[e1]at d;obtain d|d:=Zfs.1 d;obtain⟨b,l,l',eb,el,a8,a2,_⟩:=r.toTld.ob (k:=1) Z0 d;simp only[VG]at a2 f;rw[m1,ZfI Z0]at f;exact M<|r.ptr 1 Z0 q d z i A w f;simp at d;subst d;simp only at A f⊢;simp only[Zfl,VG,m1]at f⊢;rw[ZfB Z0,show I h.H+1+i-I h.H=1+i by omega,X _ Z0]at f;have:=r.ptr k Z0 o P hg i A w (by grind [Int.toNat_natCast,Nat.add_assoc]);unfold Xg at this⊢;rw[Zfc Z0]at this;rw[Zf7 Z0,Zfc ⟨rfl,Z0⟩];grind;by_cases j2:j=2;subst j2;rw[e2]at d;simp only[BM,m2]at f;exact M<|r.ptr 2 Z0 q d z i A w f;by_cases Y:j=k;subst Y;rw[e3,Zfh]at d;obtain⟨x,Q,rfl⟩:=d;by_cases e:x.Z=o.Z;grind [Ud];rw[UE e]at z A f⊢;have b4:=(YH.1 ((r.al j Z0).az x Q).1.shape).2.2.2;rw[Zg3,F x Q e (1+i) Z0,<-Zg3]at f;exact M<|r.ptr j C x Q z i A w f;have:j=7-k:=Z0;subst this;rw[e4]at d;rw[m4]at f;exact M<|r.ptr _ C q d z i A w f;have b5:=r.room;have b7:Yh (p.mv k o (I h.H)<|fstL (Zv h) 1+I h.H)+(1+D)=Yh p:=by
  have h1:=(r.al k Z0).dx;have:=Pf (t:=fstL (Zv h) 1+I h.H) h1 P hg;rw[N,Zfl]at this;unfold Yh;have a3:k=3\/k=4:=Z0;obtain rfl|rfl:=a3;simp only[Pts.lg]at this;simp only[Pts.mv,ZfT];omega;simp only[Pts.lh]at this;simp only[Pts.mv,show ¬(4:Int)=3 by omega,ZfV];omega
 grind
end
end
section
def UY(h:Hp)(p:Pts):Prop:=∀o∈p.H,UU p (fstL (Zv h) 1+o.Z)=1
section
variable {h g:Hp}{p q:Pts}
def Z99{l o t b}(d:l.Pairwise λx y=>x.Z<y.Z)(a:o∈l)(g:o.gone=xw):WY (l.map<|WT o.Z t) b=WY l b+if t=b then 1 else 0:=by
 induction l with
 |nil=>simp at a
 |cons x l h=>
  rw[Zio]at d;have e:∀y r,WY (y::r) b=(if y.gone=xk/\y.target=b then 1 else 0)+WY r b:=λy r=>by
   unfold WY;grind
  rw[Zft,e];obtain rfl|a:=Zfi.1 a
  .have:l.map (WT o.Z t)=l:=by
    conv=>rhs;rw[<-Zj5 l]
    refine Zgp λy f=>UE ?_;have:=d.1 y f;omega
   rw[Ud rfl];grind
  grind [UE]
def Z9a(r:Body h p){b:Int}(n:I h.H<=b):UU p (fstL (Zv h) 1+b)=0:=by
 have key:∀k,3<=k/\k<=4->WY (p.at k) (fstL (Zv h) 1+b)=0:=λk d=>by
  unfold WY;rw[Zhi,ZhV];intro o f a;simp[Zfp]at a;let⟨y,g,e,_⟩:=r.gone k d o f a.1;have:=r.toTld.ij g;omega
 have j:=key 3 Z0;have l:=key 4 Z0;simp_all[Pts.lg,Pts.lh,UU]
def Z95(r:Body h p){k}(j:3<=k/\k<=4){o}(g:o∈p.at k)(f:o.gone=xw){L t b}:UU (p.mv k o L t) b=UU p b+if t=b then 1 else 0:=by
 have d:=Z99 (t:=t) (b:=b) (r.al k Z0).dx g f;unfold UU;have a:k=3\/k=4:=Z0;obtain rfl|rfl:=a;simp[Pts.lg]at d;simp[Pts.mv];omega;simp[Pts.lh]at d;simp[Pts.mv,ZfV];omega
structure Ext (h:Hp) (p:Pts) (g:Hp) (q:Pts):Prop where
 H:∃ws,g.H=h.H++ws
 aa:g.aa=h.aa
 base:g.base=h.base
 cap:g.cap=h.cap
 rn:g.to=h.to
 M:g.M=h.M
 Y:g.Y=h.Y
 E:g.E=h.E
 rz:I g.an=I h.an
 ol:I g.am=I h.am
 ib:∃r,q.H=p.H++r
 ia:q.aa=p.aa
 is:∀k:Int,3<=k/\k<=4->(q.at k).map (λo=>(o.Z,o.size,o.ac))=(p.at k).map (λo=>(o.Z,o.size,o.ac))
 gone:∀k:Int,3<=k/\k<=4->∀(i:Nat) (o o':Ob),(p.at k)[i]?=J o->(q.at k)[i]?=J o'->(o.gone=xk->o'=o)/\(o'.gone=xw->o'=o/\∀j:Nat,(j:Int)<=o.size->(Zy g k)[o.Z.toNat+j]?=(Zy h k)[o.Z.toNat+j]?)
 room:(I g.H:Int)+Yh q=I h.H+Yh p
def Ext.refl h p:Ext h p h p:=
 ⟨⟨[],Z1⟩,rfl,rfl,rfl,rfl,rfl,rfl,rfl,rfl,rfl,⟨[],Z1⟩,rfl,Z1,Ze3,rfl⟩
theorem Ext.trans{f s}(a:Ext h p g q)(b:Ext g q f s):Ext h p f s:=by
 let⟨w1,y⟩:=a.H;let⟨w2,z⟩:=b.H;let⟨H,A⟩:=a.ib;let⟨K,B⟩:=b.ib;refine⟨Ze3,b.aa.trans a.aa,b.base.trans a.base,b.cap.trans a.cap,b.rn.trans a.rn,b.M.trans a.M,b.Y.trans a.Y,b.E.trans a.E,b.rz.trans a.rz,b.ol.trans a.ol,Ze3,b.ia.trans a.ia,λk d=>(b.is k d).trans<|a.is k d,λk d i o n r w=> ?_,b.room.trans a.room⟩;have D:I (q.at k)=I (p.at k):=by have:=Zg6 List.length<|a.is k d;simpa using this
 have C:=(ZeW.1 r).1;have l:(q.at k)[i]?=J ((q.at k)[i]'Z0):=Z1;generalize (q.at k)[i]'Z0=t at l;let⟨u,c2⟩:=a.gone k d i o t r l;let⟨d1,d2⟩:=b.gone k d i t n l w;refine⟨λj=> ?_,λj=> ?_⟩;have:=u j;subst this;exact d1 j;let⟨k1,F⟩:=d2 j;subst k1;let⟨x,G⟩:=c2 j;subst x;exact⟨rfl,Ze3⟩
def Ext.fst(e:Ext h p g q)k a(d:k=1\/k=3\/k=4\/k=2):ZJ (Zv g) k a=ZJ (Zv h) k a:=by
 unfold ZJ fstL Zv;simp[e.base,e.cap,e.rn,e.aa,e.ol]
def Ext.mem(e:Ext h p g q){j}(l:1<=j/\j<=4){o}(f:o∈p.at j):∃a∈q.at j,a.Z=o.Z/\a.size=o.size/\a.ac=o.ac:=by
 have d:j=1\/j=2\/j=3\/j=4:=Z0;obtain rfl|rfl|k:=d;let⟨r,n⟩:=e.ib;exact⟨o,Ze3,rfl,rfl,rfl⟩;exact⟨o,by show o∈q.aa;rw[e.ia];exact f,rfl,rfl,rfl⟩;have:=e.is j Z0;grind [List.mem_map_of_mem]
def Ext.lc(e:Ext h p g q){w i j}(t:1<=i/\i<=4)(u:1<=j/\j<=4)(l:Gos h p w i j):Gos g q w i j:=by
 obtain rfl|⟨m,o,f,n,rfl⟩:=l;exact .inl rfl;have a:1<=m/\m<=4:=by obtain rfl|rfl:=f<;>assumption
 let⟨r,d,k,_⟩:=e.mem a n;exact .inr ⟨m,r,f,d,by rw[e.fst _ _ Z0,k]⟩
theorem Body.ext(r:Body h p)(S:h.Y<=I h.H){k}(f:3<=k/\k<=4){o}(q:o∈p.at k)(P:o.gone=xw){a n:Nat}(ea:o.Z=a)(en:o.size=n):
  Ext h p (Yc h k a<|n+1) (p.mv k o (I h.H)<|fstL (Zv h) 1+I h.H):=by
 let⟨u,B,m,N,O,em,y,R,Q⟩:=r.toTld.ob (k:=k) Z0 q;have:u=a:=Z0;subst this;have:B=n:=Z0;subst this;let⟨W,X,m3,m4,Y,Z,m7,m8,m9,A⟩:=yk h f u<|B+1;let⟨K,L,M,e4⟩:=J1 (p:=p) f o (I h.H)<|fstL (Zv h) 1+I h.H;have T:(Yc h k u<|B+1).am.length=I h.am:=Bg (j:=4) f Z0;refine⟨⟨_,W⟩,X,m9,m8,A,m7,Z,Y,Bg (j:=3) f Z0,T,⟨_,K⟩,L,λj D=> ?_,λj D i x x' g w=> ?_,?_⟩;by_cases H:j=k;simp_all[Zh3,Zgp,QO,fstL,Zv,Function.comp];have:j=7-k:=Z0;simp_all;by_cases H:j=k;subst H;rw[M,Zfo,g]at w;simp at w;subst w;have d:=Zf5 g;by_cases e:x.Z=o.Z;have:=r.toTld.de Z0 q d e;subst this;rw[Ud rfl];exact⟨Ze3,Z1⟩;rw[UE e];refine⟨Z1,λ_=>⟨rfl,λi hi=>Bh f Z0 D<|.inr ?_⟩⟩;let⟨b,l,_,eb,el,_⟩:=r.toTld.ob (k:=j) Z0 d;rcases(r.al j Z0).apart x d o q with C|C|C;simp_all;left;omega;omega;have:j=7-k:=Z0;simp_all;have g:=(r.al k Z0).dx;have G:=Pf (t:=fstL (Zv h) 1+I h.H) g q P;have F:=Z4V f y;unfold Yh;have z:k=3\/k=4:=Z0;obtain rfl|rfl:=z;simp[Pts.lg]at G;simp[Pts.mv,ZfT];omega;simp[Pts.lh]at G;simp[Pts.mv,show ¬(4:Int)=3 by omega,ZfV];omega
def IB(r:Body h p)(f:UY h p)(g:h.Y<=I h.H){k}(l:3<=k/\k<=4){o}(q:o∈p.at k)(j:o.gone=xw){a n:Nat}(t:o.Z=a)(u:o.size=n):
  UY (Yc h k a<|n+1) (p.mv k o (I h.H)<|fstL (Zv h) 1+I h.H):=by
 have w:fstL (Zv<|Yc h k a<|n+1) 1=fstL (Zv h) 1:=by
  have:=(r.ext g l q j t u).fst 1 0 Z0;unfold ZJ at this;omega
 intro x d;rw[Z95 r l q j,w];obtain d|d:=Zfs.1 d;have:=r.toTld.ij d;rw[f x d,Zf7 Z0];simp_all[Z9a,Int.le_refl]
def Res(g:Hp)(q:Pts)(w v:Int):Prop:=(w=0/\v=0)\/∃k o,(k=3\/k=4)/\o∈q.at k/\w=ZJ (Zv g) k o.Z/\o.gone=xk/\v=2*o.target+1
theorem Res.ext{w v}(r:Res h p w v)(e:Ext h p g q):Res g q w v:=by
 obtain r|⟨k,o,t,u,f,a,j⟩:=r;exact .inl r;let⟨i,d⟩:=Zfj u;have x:I (q.at k)=I (p.at k):=by have:=Zg6 List.length<|e.is k Z0;simpa using this
 have n:=(ZeW.1 d).1;have l:(q.at k)[i]?=J ((q.at k)[i]'Z0):=Z1;have:=(e.gone k Z0 i o _ d l).1 a;exact .inr ⟨k,o,t,Ze2,by rw[e.fst _ _ Z0];exact f,a,j⟩
def Z96{l a o d}(f:o∈l)(j:d∈l)(k:o≠d)(g:o.gone=xk/\o.target=a)(h:d.gone=xk/\d.target=a):2<=WY l a:=by
 have e:∀y r,WY (y::r) a=(if y.gone=xk/\y.target=a then 1 else 0)+WY r a:=λy r=>by
  unfold WY;grind
 have one:∀ {l} {o:Ob},o∈l->o.gone=xk/\o.target=a->1<=WY l a:=λ{l o} f g=>by
  exact ZgT.2<|List.ne_nil_of_mem<|Zhd.2 ⟨f,by simp[g]⟩
 induction l with
 |nil=>simp at f
 |cons x l n=>
  grind
theorem Res.inj(r:Body h p)(q:UY h p){w w' v}(a:Res h p w v)(b:Res h p w' v):w=w':=by
 have nz:∀ {k} {o:Ob},(k=3\/k=4)->o∈p.at k->o.gone=xk->∃y∈p.H,o.target=fstL (Zv h) 1+y.Z:=λg j B=>by
  let⟨y,D,e,_⟩:=r.gone _ Z0 _ j B;grind
 obtain⟨rfl,rfl⟩|⟨k,o,g,j,M,z,N⟩:=a;obtain⟨rfl,_⟩|⟨F,u,d,f,G,A,H⟩:=b;rfl;omega;obtain⟨rfl,rfl⟩|⟨F,u,d,f,G,A,H⟩:=b;omega;have C:u.target=o.target:=Z0;let⟨y,D,e⟩:=nz g j z;have K:=q y D;unfold UU at K;by_cases n:k=F;subst n;by_cases t:o=u;simp_all;have:=Z96 j f t ⟨z,rfl⟩ ⟨A,C⟩;obtain rfl|rfl:=g;grind [Pts.lg];grind [Pts.lh];have one:∀ {l} {x:Ob} {a:Int},x∈l->x.gone=xk->x.target=a->1<=WY l a:=λ{l x a} L B C=>by
  exact ZgT.2<|List.ne_nil_of_mem<|Zhd.2 ⟨L,Ze2⟩
 obtain rfl|rfl:=g<;>obtain rfl|rfl:=d
 omega;grind [Pts.lg,Pts.lh];grind [Pts.lg,Pts.lh];omega
structure FwdTo (h:Hp) (p:Pts) (w v:Int) (g:Hp) (q:Pts):Prop where
 fwd:fwd h w=(v,g,0)
 body:Body g q
 fa:UY h p->UY g q
 ext:Ext h p g q
 uq:Gos g q v 1 2
 zero:v=0↔w=0
 dg:(Gos h p w 1 2/\v=w/\g=h/\q=p)\/Res g q w v
 tp:(g=h/\q=p)\/∃(k:Int) (o:Ob) (a n:Nat),(3<=k/\k<=4)/\o∈p.at k/\o.gone=xw/\o.Z=a/\o.size=n/\g=Yc h k a (n+1)/\q=p.mv k o (I h.H) (fstL (Zv h) 1+I h.H)/\v=ZJ (Zv h) 1 (I h.H)
def Body.fi(r:Body h p)(l:h.Y<=I h.H){w}(L:Gos h p w 1 2\/Gos h p w 3 4):∃v g q,FwdTo h p w v g q:=by
 by_cases C:w=0;subst C;exact⟨0,h,p,Gg r.bj,r,id,.refl h p,.inl rfl,Z1,.inr<|.inl ⟨rfl,rfl⟩,Z1⟩;have B:∃k o,1<=k/\k<=4/\o∈p.at k/\w=ZJ (Zv h) k o.Z:=by
  obtain(F|⟨k,o,f,d,e⟩)|(F|⟨k,o,f,d,e⟩):=L;omega;grind;omega;grind
 obtain⟨k,o,k1,N,d,rfl⟩:=B;by_cases G:k<=2;exact⟨_,h,p,r.kj ⟨k1,G⟩ d,r,id,.refl h p,.inr ⟨k,o,Z0,d,rfl⟩,ZgP,.inl ⟨.inr ⟨k,o,Z0,d,rfl⟩,rfl,rfl,rfl⟩,Z1⟩;have f:3<=k/\k<=4:=Z0;cases j:o.gone;let⟨a,n,m,t,u,em,H,_⟩:=r.toTld.ob ⟨k1,N⟩ d;let⟨D,_⟩:=r.gm f d j t u;have e:=r.ext l f d j t u;have b:=r.move l f d j t u;have x:(⟨I h.H,o.size,o.ac,xw,0⟩:Ob)∈(p.mv k o (I h.H)<|fstL (Zv h) 1+I h.H).H:=Zh4 _<|.head _;have A:ZJ _ 1 (I h.H)=ZJ _ 1 (I h.H):=(e.fst 1 _ Z0).symm;exact⟨_,_,_,D,b,λz=>IB r z l f d j t u,e,.inr ⟨1,_,.inl rfl,x,A⟩,iff_of_false (qe r.bj Z0) C,.inr<|.inr ⟨k,_,Z0,by rw[(J1 f o _ _).2.2.1];exact Zgz d,by rw[e.fst _ _ Z0,(QO _ _ _).1],by rw[Ud rfl],by rw[Ud rfl];rfl⟩,.inr ⟨k,o,a,n,f,d,j,t,u,rfl,rfl,rfl⟩⟩;let⟨y,M,e,_⟩:=r.gone k f o d j;have K:2*o.target+1=ZJ (Zv h) 1 y.Z:=by unfold ZJ;omega
 refine⟨_,h,p,r.kh f d j,r,id,.refl h p,.inr ⟨1,y,.inl rfl,M,K⟩,?_,.inr<|.inr ⟨k,o,Z0,d,rfl,j,rfl⟩,Z1⟩;omega
end
end
section
def YA(h:Hp):Hp:=⟨h.base,h.cap,1-h.to,xw,0,[],[],h.H,h.aa,h.E⟩
def TM(g:Hp)(i:Nat):Hp:= {(fwd g<|(g.E[i]?).getD 0).2.1 with E:=(fwd g<|(g.E[i]?).getD 0).2.1.E.set i (fwd g<|(g.E[i]?).getD 0).1}
def X3(g:Hp):Nat->Hp
 |0=>g
 |i+1=>TM (X3 g i) i
def Wb(g:Hp):Hp:=if 0<(I g.H) then {g with M:=xk}else {g with M:=xw,an:=[],am:=[]}
def YF(h:Hp):Hp:=Wb<|X3 (YA h)<|I h.E
def TL(h:Hp):Hp×Int:=if Yg h=xw then(Hp.zero,1)else if h.M then(Hp.zero,10)else(YF h,0)
def Stands.an{ws:Z9}{o:Ob}(s:Stands ws xw o):Stands ws xk o:=by
 obtain⟨w,f,a⟩:=s.word;have d:o.gone=xw:=by
  cases d:o.gone;rfl;rw[Zfc d]at a;cases a.1
 refine⟨s.ie,s.shape,s.ay,s.fk,w,f,?_⟩;rw[Zf7 (by simp[d])]at a⊢;exact⟨λ_=>Z0J (by rw[a.2.1]),a.2⟩
def Tiles.an{ws:Z9}:∀ {a:Nat} {l:Zk},Tiles ws xw a l->Tiles ws xk a l
 |_,[],h=>h
 |_,_::_,h=>⟨h.1,h.2.1.an,Tiles.an h.2.2⟩
def Pe{l:Zk}(h:∀o∈l,o.gone=xw):Y6 l=WA l:=by
 have:=Dk l;have:Am l=0:=Z91 λo a=>by rw[h o a];rfl
 omega
def Tf(p:Pts):Pts:=⟨[],[],p.H,p.aa⟩
section
variable {h:Hp}{p:Pts}
def Ae(h:Hp)(k a:Int)(d:k=1\/k=2):ZJ (Zv<|YA h) (k+2) a=ZJ (Zv h) k a:=by
 obtain rfl|rfl:=d;show 2*(h.base+(1- (1-h.to))*h.cap+a)+1=2*(h.base+h.to*h.cap+a)+1;rw[show 1- (1-h.to)=h.to by omega];show 2*(h.base+(1- (1-h.to))*h.cap+(h.cap-I h.aa)+a)+1=2*(h.base+h.to*h.cap+(h.cap-I h.aa)+a)+1;rw[show 1- (1-h.to)=h.to by omega]
def Ac{w:Int}(d:Gos h p w 1 2):Gos (YA h) (Tf p) w 3 4:=by
 obtain rfl|⟨k,o,f,a,rfl⟩:=d;exact .inl rfl;obtain rfl|rfl:=f;exact .inr ⟨3,o,.inl rfl,a,(Ae h 1 _<|.inl rfl).symm⟩;exact .inr ⟨4,o,.inr rfl,a,(Ae h 2 _<|.inr rfl).symm⟩
def FX(r:Rt h p)(hc:h.M=xw):Body (YA h)<|Tf p:=by
 have M:=XL.1 r.bj;have l:=r.al 1 Z0;have q:=r.al 2 Z0;simp only[VG,BM,Pts.mi,Pts.tf]at l q;refine⟨⟨XL.2 ?_,λk x=> ?_⟩,λk x o d g=> ?_,λk x o d g j u w y=> ?_,?_⟩;have A:(Zv h).cap=h.cap:=rfl;have B:(Zv h).base=h.base:=rfl;have C:(Zv h).to=h.to:=rfl;have D:(Zv h).H=I h.H:=rfl;have F:(Zv h).aa=I h.aa:=rfl;simp only[Zv,YA,Zg2];omega;have f:k=1\/k=2\/k=3\/k=4:=Z0;obtain rfl|rfl|rfl|rfl:=f;exact Zf3 0;exact Zf3 0;exact l.an;exact q.an;have f:k=3\/k=4:=Z0;obtain rfl|rfl:=f;have:=l.cr o d;rw[g]at this;cases this;have:=q.cr o d;rw[g]at this;cases this;have f:k=1\/k=2\/k=3\/k=4:=Z0;obtain rfl|rfl|rfl|rfl:=f;cases d;cases d;have:=r.ptr 1 Z0 o d g j u w y;obtain⟨a,n,m,G,H,em,t,_⟩:=r.toTld.ob (k:=1) Z0 d;simp only[VG]at t;unfold Xg at this⊢;rw[Zf7 Z0,Zf7 (by rw[(r.rest hc).1];omega)]at this;rw[Zfc Z0];exact Ac this;have:=r.ptr 2 Z0 o d g j u w y;unfold Xg at this⊢;rw[Zf7 Z0,Zf7 Z0]at this;rw[Zfc Z0];exact Ac this;have K:=l.sum<|Zg5 _;have L:=q.sum<|Zg5 _;have w1:=Pe l.cr;have w2:=Pe q.cr;have z:=r.room;simp only[Yh,Tf,YA,Zg2];omega
structure FlipI (h:Hp) (p:Pts) (i:Nat) (g:Hp) (q:Pts):Prop where
 body:Body g q
 fa:UY g q
 ext:Ext (YA h) (Tf p) {g with E:=h.E} q
 len:I g.E=I h.E
 rest:∀j,i<=j->g.E[j]?=h.E[j]?
 se:∀j:Nat,j<i->∀w v,h.E[j]?=J w->g.E[j]?=J v->Gos g q v 1 2/\Res g q w v
def Body.E(r:Body h p)(l:Z9):Body {h with E:=l} p:=⟨⟨r.bj,r.al⟩,r.gone,r.ptr,r.room⟩
def Ad(r:Rt h p){i:Nat}(a:i<xq h.E){g:Hp}{q:Pts}(I:FlipI h p i g q):Gos g q h.E[i] 3 4:=I.ext.lc (i:=3) (j:=4) Z0 Z0<|Ac<|r.E _<|Zfr a
def G2(r:Rt h p){i:Nat}(y:i<xq h.E){g:Hp}{q:Pts}(I:FlipI h p i g q){v:Int}{g':Hp}{t:Pts}(f:FwdTo g q (h.E[i]) v g' t):FlipI h p (i+1) (TM g i) t:=by
 have B:g.E[i]?=J h.E[i]:=by rw[I.rest i<|Zf3 _];exact ZeX y
 have O:=Ad r y I;have e:TM g i= {g' with E:=g'.E.set i v}:=by
  unfold TM;rw[B,Zfv,f.fwd]
 have x:g'.E=g.E:=f.ext.E;have l:Res g' t h.E[i] v:=by
  obtain⟨K,C,P,Q⟩|B:=f.dg;obtain d|⟨k,o,S,N,D⟩:=O;exact .inl ⟨d,C.trans d⟩;obtain d|⟨T,W,M,A,F⟩:=K;exact .inl ⟨d,C.trans d⟩;obtain⟨R,_⟩:=I.body.toTld.inj Z0 Z0 N A<|D.symm.trans F;omega;exact B
 rw[e];refine⟨f.body.E _,f.fa I.fa,I.ext.trans ⟨f.ext.H,f.ext.aa,f.ext.base,f.ext.cap,f.ext.rn,f.ext.M,f.ext.Y,rfl,f.ext.rz,f.ext.ol,f.ext.ib,f.ext.ia,f.ext.is,f.ext.gone,f.ext.room⟩,?_,λj L=> ?_,λj L w u a n=> ?_⟩;simp only[Zgx,x];exact I.len;simp only;rw[ZfX Z0,x];exact I.rest j Z0;simp only at n;by_cases z:j=i;subst z;rw[Zg7 (by rw[x,I.len];exact y)]at n;cases n;rw[ZeX y]at a;cases a;exact⟨f.uq,l⟩;rw[ZfX Z0,x]at n;obtain⟨G,H⟩:=I.se j Z0 w u a n;exact⟨(show Gos g' t u 1 2 from f.ext.lc Z0 Z0 G),(show Res g' t w u from H.ext f.ext)⟩
def G1(r:Rt h p){i:Nat}(j:i<xq h.E){g:Hp}{q:Pts}(I:FlipI h p i g q):(∃v d a,FwdTo g q (h.E[i]) v d a)/\∃a,FlipI h p (i+1) (TM g i) a/\(fwd g<|(g.E[i]?).getD 0).2.2=0:=by
 have l:g.E[i]?=J h.E[i]:=by rw[I.rest i<|Zf3 _];exact ZeX j
 have k:g.Y<=xq g.H:=by
  have:g.Y=0:=I.ext.Y;omega
 obtain⟨v,d,a,f⟩:=I.body.fi k<|.inr<|Ad r j I;exact⟨⟨v,d,a,f⟩,a,G2 r j I f,by rw[l,Zfv,f.fwd]⟩
def zt(r:Rt h p)(hc:h.M=xw):∀i,i<=xq h.E->∃q,FlipI h p i (X3 (YA h) i) q
 |0,_=>⟨Tf p,FX r hc,λo d=>(by cases d),.refl _ _,rfl,λ_ _=>rfl,λj k=>Z0⟩
 |i+1,g=>by
  obtain⟨q,I⟩:=zt r hc i Z0;obtain⟨_,f,a,_⟩:=G1 r Z0 I;exact⟨f,a⟩
def Ab(r:Rt h p)(hc:h.M=xw){g:Hp}{q:Pts}(I:FlipI h p (xq h.E) g q):Rt (Wb g) (if 0<(xq g.H) then q else⟨[],[],[],[]⟩)/\(¬0<xq g.H->g.H=[]/\q.H=[]/\q.aa=[]/\∀w∈g.E,w=0):=by
 have t:g.Y=0:=I.ext.Y;have f:g.aa=[]:=I.ext.aa;have y:q.aa=[]:=I.ext.ia;have d:∀w∈g.E,Gos g q w 1 2:=λw A=>by
  obtain⟨j,D⟩:=Zfj A;have u:=(ZeW.1 D).1;rw[I.len]at u;exact(I.se j u _ w (ZeX u) D).1
 have F:xq g.E<=16:=by rw[I.len];exact r.du
 by_cases x:0<xq g.H;refine⟨?_,λh=>absurd x h⟩;rw[Zfc x];unfold Wb;rw[Zfc x];have b:=I.body;exact⟨⟨⟨b.bj,b.al⟩,b.gone,b.ptr,b.room⟩,F,by show 0<=g.Y;omega,by show g.Y<=xq g.H;omega,λ_=>(by show g.Y<xq g.H;omega),λh=>Zei,λ_=>I.fa,d⟩;have a:g.H=[]:=Zhi.1 Z0;have z:q.H=[]:=by
  have:=I.body.al 1 Z0;simp only[VG,Pts.mi,a]at this;exact this.nil
 have G:∀w∈g.E,w=0:=λw A=>by
  obtain h|⟨k,o,B,l,_⟩:=d w A;exact h;obtain rfl|rfl:=B;simp only[Pts.mi,z]at l;cases l;simp only[Pts.tf,y]at l;cases l
 refine⟨?_,λ_=>⟨a,z,y,G⟩⟩;rw[Zf7 x];unfold Wb;rw[Zf7 x];have u:=XL.1 I.body.bj;have n:∀k,(⟨[],[],[],[]⟩:Pts).at k=[]:=λk=>by unfold Pts.at;split<;>(try split)<;>(try split)<;>rfl
 have C:∀k,Zy {g with M:=xw,an:=[],am:=[]} k=[]:=λk=>by unfold Zy;simp only[a,f];split<;>(try split)<;>(try split)<;>rfl
 refine⟨⟨⟨XL.2 ?_,λk B=> ?_⟩,λk B o l=> ?_,λk B o l=> ?_,?_⟩,F,by show 0<=g.Y;omega,by show g.Y<=xq g.H;omega,λh=>Zei,λ_=>⟨by show g.Y=xq g.H;rw[a,t];rfl,rfl,rfl⟩,λh=>Zei,λw A=>.inl<|G w A⟩;simp only[Zv,Zg2]at u⊢;omega;rw[n,C];exact Zf3 _;rw[n]at l;cases l;rw[n]at l;cases l;show(xq g.H:Int)+xq g.aa+Yh ⟨[],[],[],[]⟩<=g.cap;rw[a,f];simp only[Zv]at u;simp[Yh,Y6];omega
def FZ(r:Rt h p)(hc:h.M=xw):∃g q,FlipI h p (xq h.E) g q/\YF h=Wb g/\Rt (Wb g) (if 0<(xq g.H) then q else⟨[],[],[],[]⟩)/\(¬0<xq g.H->g.H=[]/\q.H=[]/\q.aa=[]/\∀w∈g.E,w=0):=by
 obtain⟨q,I⟩:=zt r hc (xq h.E)<|Zf3 _;exact⟨_,q,I,rfl,Ab r hc I⟩
end
end
end Vm
end
