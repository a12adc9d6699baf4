import Derived.WalkKit
import Derived.Test.YtccfecikcmjnfaaSMeasureFits1
set_option linter.unusedSimpArgs false
set_option linter.unusedVariables false
set_option linter.defProp false
open Option renaming some→J,none→U
open Bool renaming true→xk,false→xw
open Go renaming undef→xy
open List renaming length→I
open Array renaming size→xz
open Go.World renaming heap→xj
open List renaming length→xq
open Array renaming size→xz
open Go.World renaming heap→xj
theorem ZgY{p:Prop}(h:p:=by simp at h):p:=h
theorem Zhe{p:Prop}(h:p:=by simpa using h):p:=h
theorem Zh4{p:Prop}(h:p:=by have:=D p d;simp[UT]at this;exact this y):p:=h
theorem Zhb{p:Prop}(h:p:=by rfl):p:=h
theorem Zh2{p:Prop}(h:p:=by simp[Builtin.len_,run_underlying d,goInt]):p:=h
theorem ZgV{p:Prop}(h:p:=by rw[j.1];exact(List.getElem?_eq_some_iff.1 t).1):p:=h
theorem Zh5{p:Prop}(h:p:=by rw[cell_of_row w b o vs K _ H];simp_all):p:=h
theorem ZgF{p:Prop}(h:p:=by simp[E.dc]at h):p:=h
def Zi3:=@List.length_append
def ZiG:=@Nat.succ_mul
def ZhQ:=@List.getElem?_append_left
def ZhJ:=@List.getElem?_append_right
def Zio:=@List.mem_of_mem_take
def Zil:=@List.length_take
def ZkP:=@Nat.min_eq_left
def Ziy:=@List.take_of_length_le
def Zi1:=@Nat.mul_le_mul_right
def Zj1:=@List.drop_of_length_le
def Zhq:=@List.mem_of_getElem?
def Zie:=@Go.World.cell?_of_block
def Zip:=@Array.eq_empty_of_size_eq_zero
def Zj7:=@List.eq_nil_of_length_eq_zero
def Zhv:=@Go.cell_of_row
def ZhV:=@List.getElem?_take
def Zhh:=@Option.some.injEq
def Zhg:=@Option.bind_eq_some_iff
def Zhj:=@List.getElem?_eq_some_iff
def Zhw:=@List.all_eq_true
def Zkq:=@List.any_eq_false
def Zkz:=@Bool.not_eq_true
def ZhH:=@Go.RowKit.Below.refl
def Ziq:=@Option.isSome_iff_exists
def Zi6:=@Go.run_underlying
def ZiX:=@Go.Addr.add_lit
def ZiO:=@List.ext_getElem?
def ZhI:=@List.getElem?_of_mem
def ZhM:=@List.getElem?_drop
def ZiF:=@Array.getElem?_toList
def ZhN:=@List.length_map
def ZiV:=@List.getElem?_toArray
def Ziw:=@Nat.add_assoc
def Zhy:=@Int.eq_ofNat_of_zero_le
def Zhi:=@List.getElem?_eq_getElem
def ZiP:=@List.size_toArray
def ZjC:=@List.mem_of_mem_drop
def ZhA:=@Int.toNat_natCast
def Zld:=@Array.getElem?_extract
def Zkn:=@List.drop_eq_nil_of_le
def Zjg:=@Nat.sub_self
def Zj9:=@List.take_length
def ZiH:=@Go.World.grownBy_alloc
def ZhT:=@Go.heap_alloc_new
def ZhE:=@List.getElem_mem
def ZiD:=@List.length_cons
def Zl7:=@Nat.add_right_cancel_iff
def ZhG:=@List.getElem?_map
def Zkk:=@decide_eq_false_iff_not
def Zj4:=@List.nodup_cons
def ZhS:=@decide_eq_true_eq
def Zki:=@Nat.lt_or_gt_of_ne
def Zk2:=@List.mem_of_find?_eq_some
def ZkL:=@List.find?_some
def Ziv:=@List.map_append
def Zkr:=@List.nodup_append
section
namespace Vm
open Go
inductive V where
 |int (k:IntKind) (n:Int)
 |bool (b:Bool)
 |str (s:ByteArray)
 |sl (l:List V)
 |agg (cs:List V)
 |am (l:List V)
 |ptr (cs:List V)
 |fn (f:FuncId)
 |mp (id:Nat) (ks vs:List V)
 |cq (f:FuncId) (cs:List V)
 |lx (k:Nat)
 deriving Inhabited
def V.cells:V->List V
 |.agg a=>a
 |x=>[x]
def V.one:V->Bool
 |.agg _|.am _=>xw
 |_=>xk
def V.au(k:Nat)(x:V):Prop:=I x.cells=k/\∀c∈x.cells,c.one=xk
def flat(l:List V):List V:=l.flatMap V.cells
def Z40:flat []=[]:=rfl
def Qe x l:flat (x::l)=x.cells++flat l:=rfl
theorem AO l r:flat (l++r)=flat l++flat r:=by simp[flat]
def Sc{k}:∀ {l},(∀x∈l,x.au k)->I (flat l)=I l*k
 | [],_=>by simp[flat]
 |x::l,h=>by
  rw[Qe,Zi3,(h x Z1).1,Sc (λy a=>h y<|by simp[a])];simp[ZiG,Zky]
def VT{k}:∀ {l} {i:Nat} {x:V},(∀x∈l,x.au k)->l[i]?=J x->∀j,j<k->(flat l)[i*k+j]?=x.cells[j]?
 | [],i,x,_,h,_,_=>ZgY
 |y::l,0,x,a,h,j,d=>by
  simp at h;subst h;rw[Qe,Nat.zero_mul,Zi5,ZhQ (by rw[(a y Z1).1];exact d)]
 |y::l,i+1,x,a,h,j,d=>by
  rw[Qe,ZhJ (by rw[(a y Z1).1];rw[ZiG];omega),(a y Z1).1,
   show _*k+j-k=i*k+j from by rw[ZiG];omega]
  exact VT Zgm Zhe j d
def Z41{k l}(h:∀x∈l,x.au k)n:flat (l.take n)=(flat l).take (n*k):=by
 by_cases a:n<=I l;have f:I (flat<|l.take n)=n*k:=by
  rw[Sc (λx d=>h x<|Zio d),Zil,ZkP a]
 grind [AO,List.take_append_drop];rw[Ziy Z0,Ziy];rw[Sc h];exact Zi1 _ Z0
def Z3Y{k l}(h:∀x∈l,x.au k)n:flat (l.drop n)=(flat l).drop (n*k):=by
 by_cases a:n<=I l;have f:I (flat<|l.take n)=n*k:=by
  rw[Sc (λx d=>h x<|Zio d),Zil,ZkP a]
 grind [AO,List.take_append_drop];rw[Zj1 Z0,Zj1,Z40];rw[Sc h];exact Zi1 _ Z0
def Z3Z{l}{i:Nat}{c}(h:(flat l)[i]?=J c):∃x∈l,c∈x.cells:=by
 have:=Zhq h;simp_all[flat]
inductive Rd (w:World) (G:Nat->Prop):V->Value->Prop where
 |int (k:IntKind) (n:Int):Rd w G (.int k n)<|.int k n
 |bool (b:Bool):Rd w G (.bool b)<|.bool b
 |str (s:ByteArray):Rd w G (.str s)<|.string s
 |nil (a:Option Addr) (cap:Nat):cap<=maxLen->Rd w G (.sl []) (.slice a 0 cap)
 |sl (l:List V) (b o cap k:Nat) (vs:Nat->Value):l.length<=cap->cap<=maxLen->G b->(∀x∈l,x.au k)->
   (∀i,i<l.length*k->w.cell? ⟨b,o+i,none⟩=some (vs i))->(∀i c,(flat l)[i]?=some c->Rd w G c (vs i))->
   Rd w G (.sl l) (.slice (some ⟨b,o,none⟩) l.length cap)
 |agg (cs:List V) (vs:Array Value):vs.size=cs.length->(∀c∈cs,c.one=true)->(∀i c,cs[i]?=some c->Rd w G c (vs.getD i undef))->Rd w G (.agg cs) (.agg vs)
 |am (l:List V) (vs:Array Value):vs.size=l.length->(∀i c,l[i]?=some c->Rd w G c (vs.getD i undef))->Rd w G (.am l) (.tuple vs)
 |ptr (cs:List V) (b o:Nat) (vs:Nat->Value):G b->(∀c∈cs,c.one=true)->(∀i,i<cs.length->w.cell? ⟨b,o+i,none⟩=some (vs i))->
   (∀i c,cs[i]?=some c->Rd w G c (vs i))->Rd w G (.ptr cs) (.pointer<|some ⟨b,o,none⟩)
 |fn (f:FuncId):Rd w G (.fn f)<|.func (.func f) #[] #[]
 |cq (f:FuncId) (cs:List V) (vs:Array Value):vs.size=cs.length->(∀i c,cs[i]?=some c->Rd w G c (vs.getD i undef))->Rd w G (.cq f cs) (.func (.func f) #[] vs)
 |ib:Rd w G (.lx 0)<|.pointer none
 |ic:Rd w G (.lx 1) .nilFunc
 |lw:Rd w G (.mp 0 [] [])<|.map none
 |mp (id:Nat) (ks xs:List V) (b clk:Nat) (es:Array MapEntry):(id=0\/id=b+1)->G b->w.heap[b]?=some (.map es clk)->ks.length=es.size->xs.length=es.size->
   (∀i c,ks[i]?=some c->Rd w G c (es.getD i default).key)->(∀i c,xs[i]?=some c->Rd w G c (es.getD i default).val)->Rd w G (.mp id ks xs) (.map<|some b)
def Same(G:Nat->Prop)(w w':World):Prop:=∀b,G b->w'.heap[b]?=w.heap[b]?
def Same.refl G w:Same G w w:=λ_ _=>rfl
theorem Same.trans{G a b c}(h:Same G a b)(k:Same G b c):Same G a c:=λx d=>(k x d).trans<|h x d
def Same.cell{G w w'}(h:Same G w w'){b o}(a:G b):w'.cell? ⟨b,o,U⟩=w.cell? ⟨b,o,U⟩:=
 Zie (h b a)
def Rd.keep{w w' G G' x v}(h:Rd w G x v)(u:Same G w w')(L:∀b,G b->G' b):Rd w' G' x v:=by
 induction h with
 |int k n=>exact .int k n
 |bool b=>exact .bool b
 |str s=>exact .str s
 |nil a cap C=>exact .nil a cap C
 |sl l b o cap k vs d j q t K _ g=>exact .sl l b o cap k vs d j Zgm t (λi D=>by rw[u.cell q];grind) g
 |agg p vs d j _ g=>exact .agg p vs d j g
 |am l vs d _ g=>exact .am l vs d g
 |ptr p b o vs d j q _ g=>exact .ptr p b o vs Zgm j (λi D=>by rw[u.cell d];grind) g
 |fn f=>exact .fn f
 |cq f p vs d _ g=>exact .cq f p vs d g
 |ib=>exact .ib
 |ic=>exact .ic
 |lw=>exact .lw
 |mp id F H b r A B d j q t _ _ y z=>exact .mp id F H b r A B Zgm (by rw[u b d];exact j) q t y z
def Rd.mono{w G G' x v}(h:Rd w G x v)(a:∀b,G b->G' b):Rd w G' x v:=h.keep (.refl _ _) a
def Rd.il{w G x v}(h:Rd w G x v):v.oneCell'=x.one:=by
 cases h<;>rfl
theorem Rd.cells{w G x v}(h:Rd w G x v)(L:∀l,x≠.am l):v.cells.size=I x.cells/\(∀c∈x.cells,c.one=xk)/\∀i c,x.cells[i]?=J c->Rd w G c (v.cells.getD i xy):=by
 have d:∀ {x} {v:Value},Rd w G x v->x.one=xk->v.cells=#[v]->x.cells=[x]->v.cells.size=I x.cells/\(∀c∈x.cells,c.one=xk)/\∀i c,x.cells[i]?=J c->Rd w G c (v.cells.getD i xy):=by
  intro x v h g D F;rw[D,F];refine⟨rfl,Zgl,λi c C=> ?_⟩;cases i with
  |zero=>simp_all
  |succ i=>simp at C
 cases h with
 |agg r vs g j p=>exact⟨g,j,p⟩
 |am l vs _ _=>simp_all
 |int k n=>exact d (.int k n) rfl rfl rfl
 |bool b=>exact d (.bool b) rfl rfl rfl
 |str s=>exact d (.str s) rfl rfl rfl
 |nil a cap B=>exact d (.nil a cap B) rfl rfl rfl
 |sl l b o cap k vs g j p q u y=>exact d (.sl l b o cap k vs g j p q u y) rfl rfl rfl
 |ptr r b o vs g j p q=>exact d (.ptr r b o vs g j p q) rfl rfl rfl
 |fn f=>exact d (.fn f) rfl rfl rfl
 |cq f r vs g j=>exact d (.cq f r vs g j) rfl rfl rfl
 |ib=>exact d .ib rfl rfl rfl
 |ic=>exact d .ic rfl rfl rfl
 |lw=>exact d .lw rfl rfl rfl
 |mp id H K b t z A g j p q u y=>exact d (.mp id H K b t z A g j p q u y) rfl rfl rfl
end Vm
namespace Vm
open Go
inductive KC where
 |b|i (k:IntKind)|s
 deriving DecidableEq,Inhabited
inductive E where
 |c (v:V)
 |s (t:Nat)
 |m (t i:Nat)
 |mm (t i n:Nat)
 |bo (op:BinOp) (a b:E)
 |fj (neg:Bool) (a b:E)
 |un (op:UnOp) (a:E)
 |conv (k:IntKind) (a:E)
 |len (a:E)
 |mn (a b:E)
 |mx (a b:E)
 |ext (a:E) (i:Nat)
 |az (a i:E) (k:Nat)
 |ae (a:E) (o:Nat)
 |bb (a:E) (o n:Nat)
 |ai (a i:E) (n k:Nat) (ag:Bool)
 |gz (a lo hi:E) (k:Nat)
 |fg (a lo:E) (k:Nat)
 |app (a b:E) (k:Nat)
 |upd (a i:E) (o:Nat) (b:E)
 |df (a i:E) (n k:Nat) (b:E)
 |mk (z:V) (n:E)
 |lit (l:List E)
 |ag (l:List E)
 |ite (c a b:E)
 |aq (a:E)
 |bm (a:E)
 |one (a:E)
 |sz (a:E) (n:Nat)
 |fl (a:E)
 |iy (a:E)
 |lk (kc:KC) (a k:E) (z:V) (ok:Bool)
 |dg (kc:KC) (a k v:E)
 |dz (a:E)
 |fe (a:E)
 |pt (f:Option FuncId) (l:List E)
 deriving Inhabited
inductive SV where
 |no
 |v (x:V)
 |m (cs:List V)
 deriving Inhabited
abbrev St:=List SV
def get(s:St)(t:Nat):SV:=(s[t]?).getD .no
def Y4:Nat:=4294967296
def Xd:BinOp->V->V->Option V
 |.add,.int k a,.int d b=>if k=d then J (.int k<|k.wrap<|a+b)else U
 |.sub,.int k a,.int d b=>if k=d then J (.int k<|k.wrap<|a-b)else U
 |.mul,.int k a,.int d b=>if k=d then J (.int k<|k.wrap<|a*b)else U
 |.quo,.int k a,.int d b=>if k=d/\b≠0 then J (.int k<|k.wrap<|a.tdiv b)else U
 |.rem,.int k a,.int d b=>if k=d/\b≠0 then J (.int k<|a.tmod b)else U
 |.and,.int k a,.int d b=>if k=d then J (.int k<|k.wrap (BitVec.ofInt k.bits a&&& BitVec.ofInt k.bits b).toNat)else U
 |.or,.int k a,.int d b=>if k=d then J (.int k<|k.wrap (BitVec.ofInt k.bits a|||BitVec.ofInt k.bits b).toNat)else U
 |.xor,.int k a,.int d b=>if k=d then J (.int k<|k.wrap (BitVec.ofInt k.bits a ^^^ BitVec.ofInt k.bits b).toNat)else U
 |.shl,.int k a,.int _ b=>if 0<=b then J (.int k<|k.wrap<|a*2 ^ (min b.toNat k.bits))else U
 |.shr,.int k a,.int _ b=>if 0<=b then J (.int k<|a.fdiv<|2 ^ (min b.toNat k.bits))else U
 |.eql,.int k a,.int d b=>if k=d then J (.bool<|a==b)else U
 |.neq,.int k a,.int d b=>if k=d then J (.bool<|a !=b)else U
 |.lss,.int k a,.int d b=>if k=d then J (.bool<|decide (a<b))else U
 |.leq,.int k a,.int d b=>if k=d then J (.bool<|decide (a<=b))else U
 |.gtr,.int k a,.int d b=>if k=d then J (.bool<|decide (a>b))else U
 |.geq,.int k a,.int d b=>if k=d then J (.bool<|decide (a≥b))else U
 |_,_,_=>U
def R7(neg:Bool):V->V->Option V
 |.bool a,.bool b=>J<|.bool<|neg ^^ (a==b)
 |_,_=>U
def SM:UnOp->V->Option V
 |.neg,.int k n=>J<|.int k<|k.wrap<|0-n
 |.not,.bool b=>J<|.bool !b
 |_,_=>U
def J7(k:IntKind):V->Option V
 |.int _ n=>J<|.int k<|k.wrap n
 |_=>U
def Qs:V->Option V
 |.sl l=>J<|.int .i64<|I l
 |_=>U
def Qx:V->V->Option V
 |.int k x,.int _ y=>J<|.int k (if y<x then y else x)
 |_,_=>U
def Qw:V->V->Option V
 |.int k x,.int _ y=>J<|.int k (if y>x then y else x)
 |_,_=>U
def Sb:V->Nat->Option V
 |.am l,i=>l[i]?
 |_,_=>U
def Xc(x i:V)(k:Nat):Option V:=
 match x,i with
 |.sl l,.int _ i=>if 0<=i then(l[i.toNat]?).bind λz=>if I z.cells=k then J z else U else U
 |_,_=>U
def V.pc:V->List V
 |.agg a=>a
 |x=>[x]
def Tu:V->Option V
 |.ptr a=>J<|.agg a
 |_=>U
def YU(x:V):Option V:=if x.one then J x else U
def VL(x:V)(n:Nat):Option V:=if I x.cells=n then match x with|.am _=>U|x=>J x else U
def Qn:V->Option V
 |.agg a=>J<|.agg a
 |_=>U
def Y0(x:V)(o:Nat):Option V:=(x.pc[o]?).bind YU
def Xv(k:Nat)(l:List V):Bool:=l.all λx=>I x.cells==k
def UC(x:V)(o n:Nat):Option V:=if o+n<=(I x.pc) then J (.agg<|(x.pc.drop o).take n)else U
def Ya(x i:V)(n k:Nat)(ag:Bool):Option V:=
 match x,i with
 |.agg a,.int _ i=>if 0<=i/\i<n/\I a=n*k then(if ag then J (.agg<|(a.drop<|i.toNat*k).take k)else a[i.toNat*k]?)else U
 |_,_=>U
def RF(k:Nat):V->V->V->Option V
 |.sl l,.int _ a,.int _ b=>if 0<=a/\a<=b/\b<=I l/\Xv k l=xk then J (.sl<|(l.take b.toNat).drop a.toNat)else U
 |_,_,_=>U
def QP(k:Nat):V->V->Option V
 |.sl l,.int _ a=>if 0<=a/\a<=I l/\Xv k l=xk then J (.sl<|l.drop a.toNat)else U
 |_,_=>U
def RZ(k:Nat):V->V->Option V
 |.sl a,.sl b=>if I a+I b<=Y4/\Xv k b=xk then J (.sl<|a++b)else U
 |_,_=>U
def setCells(cs:List V)(o:Nat)(b:List V):List V:=cs.take o++b++cs.drop (o+I b)
def V.put(x:V)(o:Nat)(b:List V):V:=
 match x with
 |.agg a=>.agg<|setCells a o b
 |_=>b.headD x
def RL(x i:V)(o:Nat)(b:V):Option V:=
 match x,i with
 |.sl l,.int _ i=>if 0<=i then(l[i.toNat]?).bind λy=>if o+I b.cells<=I y.cells/\b.cells≠[]then J (.sl<|l.set i.toNat<|y.put o b.cells)else U else U
 |_,_=>U
def UZ(x i:V)(n k:Nat)(b:V):Option V:=
 match x,i with
 |.agg a,.int _ i=>if 0<=i/\i<n/\I a=n*k/\I b.cells=k then J (.agg<|setCells a (i.toNat*k) b.cells)else U
 |_,_=>U
def L9(z:V):V->Option V
 |.int _ n=>if 0<=n/\n<=Y4 then J (.sl<|List.replicate n.toNat z)else U
 |_=>U
def S7(l:List V):V:=.agg<|flat l
def V.bf:V->Bool
 |.int .. |.bool _|.str _=>xk
 |_=>xw
def WE(x:V):Option V:=
 match x with
 |.am _=>U
 |x=>if x.cells.all V.bf then J x else U
def AX(x:V):Option V:=
 match x with
 |.sl l=>if(Vm.flat l).all V.bf then J x else U
 |_=>U
def L5:V->V->Option Bool
 |.int k a,.int d b=>if k=d then J (a==b)else U
 |.bool a,.bool b=>J<|a==b
 |.str a,.str b=>J<|a==b
 |_,_=>U
def TJ(k:V):List V->Option (Option Nat)
 | []=>J U
 |y::l=>match L5 k y with
  |some xk=>J<|J 0
  |some xw=>(TJ k l).map λr=>r.map (· +1)
  |none=>U
def Vl:KC->V->Bool
 |.b,.bool _=>xk
 |.i k,.int a _=>decide (k=a)
 |.s,.str _=>xk
 |_,_=>xw
def UH(a:KC)(x k z:V)(ok:Bool):Option V:=
 if Vl a k=xw then U else
 match x with
 | .mp _ d vs=>match TJ k d with
   |some (J i)=>(vs[i]?).map λv=>if ok then .am [v,.bool xk]else v
   |some U=>J (if ok then .am [z,.bool xw]else z)
   |none=>U
 |_=>U
def Ti(d:KC)(x k v:V):Option V:=
 if Vl d k=xw then U else
 match x with
 | .mp id a vs=>match TJ k a with
   |some (J i)=>J<|.mp id a<|vs.set i v
   |some U=>J<|.mp id (a++[k])<|vs++[v]
   |none=>U
 |_=>U
def L7:V->Option V
 |.mp id _ _=>J<|.mp id [] []
 |_=>U
def Ri:V->Option V
 |.mp _ a _=>J<|.int .i64<|I a
 |_=>U
def Js(c:V)(a b:Option V):Option V:=
 match c with
 |.bool xk=>a
 |.bool xw=>b
 |_=>U
def LD(f:Option FuncId)(l:List V):Option V:=
 match f with
 |none=>if l.all V.one then J (.ptr l)else U
 |some f=>J<|.cq f l
mutual
def eval(s:St):E->Option V
 |.c v=>J v
 |.s t=>match get s t with|.v x=>J x|_=>U
 |.m t i=>match get s t with|.m d=>(d[i]?).bind YU|_=>U
 |.mm t i n=>match get s t with|.m d=>if i+n<=(I d) then J (.agg<|(d.drop i).take n)else U|_=>U
 |.bo op a b=>(eval s a).bind λx=>(eval s b).bind λy=>Xd op x y
 |.fj n a b=>(eval s a).bind λx=>(eval s b).bind λy=>R7 n x y
 |.un op a=>(eval s a).bind<|SM op
 |.conv k a=>(eval s a).bind<|J7 k
 |.len a=>(eval s a).bind Qs
 |.mn a b=>(eval s a).bind λx=>(eval s b).bind λy=>Qx x y
 |.mx a b=>(eval s a).bind λx=>(eval s b).bind λy=>Qw x y
 |.ext a i=>(eval s a).bind λx=>Sb x i
 |.az a i k=>(eval s a).bind λx=>(eval s i).bind λy=>Xc x y k
 |.ae a o=>(eval s a).bind λx=>Y0 x o
 |.bb a o n=>(eval s a).bind λx=>UC x o n
 |.ai a i n k ag=>(eval s a).bind λx=>(eval s i).bind λy=>Ya x y n k ag
 |.gz a h j k=>(eval s a).bind λx=>(eval s h).bind λy=>(eval s j).bind λz=>RF k x y z
 |.fg a h k=>(eval s a).bind λx=>(eval s h).bind λy=>QP k x y
 |.app a b k=>(eval s a).bind λx=>(eval s b).bind λy=>RZ k x y
 |.upd a i o b=>(eval s a).bind λx=>(eval s i).bind λy=>(eval s b).bind λz=>RL x y o z
 |.df a i n k b=>(eval s a).bind λx=>(eval s i).bind λy=>(eval s b).bind λz=>UZ x y n k z
 |.mk z n=>(eval s n).bind<|L9 z
 |.lit l=>(YH s l).map .sl
 |.ag l=>(YH s l).map S7
 |.ite c a b=>(eval s c).bind λx=>Js x (eval s a)<|eval s b
 |.aq a=>(eval s a).bind Tu
 |.bm a=>(eval s a).bind Qn
 |.one a=>(eval s a).bind YU
 |.sz a n=>(eval s a).bind λx=>VL x n
 |.fl a=>(eval s a).bind WE
 |.iy a=>(eval s a).bind AX
 |.lk g a k z ok=>(eval s a).bind λx=>(eval s k).bind λy=>UH g x y z ok
 |.dg g a k v=>(eval s a).bind λx=>(eval s k).bind λy=>(eval s v).bind λz=>Ti g x y z
 |.dz a=>(eval s a).bind Ri
 |.fe a=>(eval s a).bind L7
 |.pt f l=>(YH s l).bind<|LD f
def YH(s:St):List E->Option (List V)
 | []=>J []
 |e::l=>(eval s e).bind λx=>(YH s l).map (x:: ·)
end
mutual
def V.same:V->V->Bool
 |.int k n,.int h j=>decide (k=h)&&decide (n=j)
 |.bool a,.bool b=>a==b
 |.sl a,.sl b=>V.ci a b
 |.agg a,.agg b=>V.ci a b
 |.am a,.am b=>V.ci a b
 |.fn a,.fn b=>a==b
 |.mp i a b,.mp g d f=>i==g&&V.ci a d&&V.ci b f
 |_,_=>xw
def V.ci:List V->List V->Bool
 | [],[]=>xk
 |a::l,b::r=>V.same a b&&V.ci l r
 |_,_=>xw
end
mutual
def E.same:E->E->Bool
 |.c a,.c b=>V.same a b
 |.s a,.s b=>a==b
 |.m a i,.m b j=>a==b&&i==j
 |.mm a i n,.mm b j w=>a==b&&i==j&&n==w
 |.bo o a b,.bo u h p=>decide (o=u)&&E.same a h&&E.same b p
 |.fj o a b,.fj u h p=>o==u&&E.same a h&&E.same b p
 |.un o a,.un u h=>decide (o=u)&&E.same a h
 |.conv k a,.conv t h=>decide (k=t)&&E.same a h
 |.len a,.len b=>E.same a b
 |.mn a b,.mn h p=>E.same a h&&E.same b p
 |.mx a b,.mx h p=>E.same a h&&E.same b p
 |.ext a i,.ext b j=>E.same a b&&i==j
 |.az a b k,.az h p t=>E.same a h&&E.same b p&&k==t
 |.ae a o,.ae b u=>E.same a b&&o==u
 |.bb a o n,.bb b u w=>E.same a b&&o==u&&n==w
 |.ai a i n k g,.ai h x w t C=>E.same a h&&E.same i x&&n==w&&k==t&&g==C
 |.gz a b d k,.gz h p y t=>E.same a h&&E.same b p&&E.same d y&&k==t
 |.fg a b k,.fg h p t=>E.same a h&&E.same b p&&k==t
 |.app a b k,.app h p t=>E.same a h&&E.same b p&&k==t
 |.upd a i o b,.upd h x u p=>E.same a h&&E.same i x&&o==u&&E.same b p
 |.df a i n k b,.df h x w t p=>E.same a h&&E.same i x&&n==w&&k==t&&E.same b p
 |.mk z n,.mk B w=>V.same z B&&E.same n w
 |.lit l,.lit r=>E.ci l r
 |.ag l,.ag r=>E.ci l r
 |.aq a,.aq b=>E.same a b
 |.bm a,.bm b=>E.same a b
 |.one a,.one b=>E.same a b
 |.sz a n,.sz b w=>E.same a b&&n==w
 |.fl a,.fl b=>E.same a b
 |.iy a,.iy b=>E.same a b
 |.lk q a k z o,.lk A h t B u=>decide (q=A)&&E.same a h&&E.same k t&&V.same z B&&o==u
 |.dg q a k v,.dg A h t D=>decide (q=A)&&E.same a h&&E.same k t&&E.same v D
 |.dz a,.dz b=>E.same a b
 |.fe a,.fe b=>E.same a b
 |.pt f l,.pt g r=>f==g&&E.ci l r
 |.ite a b d,.ite h p y=>E.same a h&&E.same b p&&E.same d y
 |_,_=>xw
def E.ci:List E->List E->Bool
 | [],[]=>xk
 |a::l,b::r=>E.same a b&&E.ci l r
 |_,_=>xw
end
mutual
def E.ax(x:E):E->Bool
 |.bo o a b=>E.same x (.bo o a b)||E.ax x a||E.ax x b
 |.fj o a b=>E.same x (.fj o a b)||E.ax x a||E.ax x b
 |.un o a=>E.same x (.un o a)||E.ax x a
 |.conv k a=>E.same x (.conv k a)||E.ax x a
 |.len a=>E.same x (.len a)||E.ax x a
 |.mn a b=>E.same x (.mn a b)||E.ax x a||E.ax x b
 |.mx a b=>E.same x (.mx a b)||E.ax x a||E.ax x b
 |.ext a i=>E.same x (.ext a i)||E.ax x a
 |.az a b k=>E.same x (.az a b k)||E.ax x a||E.ax x b
 |.ae a o=>E.same x (.ae a o)||E.ax x a
 |.bb a o n=>E.same x (.bb a o n)||E.ax x a
 |.ai a i n k g=>E.same x (.ai a i n k g)||E.ax x a||E.ax x i
 |.gz a b d k=>E.same x (.gz a b d k)||E.ax x a||E.ax x b||E.ax x d
 |.fg a b k=>E.same x (.fg a b k)||E.ax x a||E.ax x b
 |.app a b k=>E.same x (.app a b k)||E.ax x a||E.ax x b
 |.upd a i o b=>E.same x (.upd a i o b)||E.ax x a||E.ax x i||E.ax x b
 |.df a i n k b=>E.same x (.df a i n k b)||E.ax x a||E.ax x i||E.ax x b
 |.mk z n=>E.same x (.mk z n)||E.ax x n
 |.lit l=>E.same x (.lit l)||E.gg x l
 |.ag l=>E.same x (.ag l)||E.gg x l
 |.ite a b d=>E.same x (.ite a b d)||E.ax x a
 |.aq a=>E.same x (.aq a)||E.ax x a
 |.bm a=>E.same x (.bm a)||E.ax x a
 |.one a=>E.same x (.one a)||E.ax x a
 |.sz a n=>E.same x (.sz a n)||E.ax x a
 |.fl a=>E.same x (.fl a)||E.ax x a
 |.iy a=>E.same x (.iy a)||E.ax x a
 |.lk q a k z o=>E.same x (.lk q a k z o)||E.ax x a||E.ax x k
 |.dg q a k v=>E.same x (.dg q a k v)||E.ax x a||E.ax x k||E.ax x v
 |.dz a=>E.same x (.dz a)||E.ax x a
 |.fe a=>E.same x (.fe a)||E.ax x a
 |.pt f l=>E.same x (.pt f l)||E.gg x l
 |.c v=>E.same x<|.c v
 |.s t=>E.same x<|.s t
 |.m t i=>E.same x<|.m t i
 |.mm t i n=>E.same x<|.mm t i n
def E.gg(x:E):List E->Bool
 | []=>xw
 |a::l=>E.ax x a||E.gg x l
end
def E.dc:E->Bool
 |.c v=>v.one
 |.m .. |.bo .. |.fj .. |.un .. |.conv .. |.len _|.mn .. |.mx .. |.ae .. |.gz .. |.fg .. |.app .. |.upd .. |.mk .. |.lit _|.one _|.dg .. |.dz _|.fe _=>xk
 |.ite _ a b=>E.dc a&&E.dc b
 |_=>xw
def E.rf(n:Nat):E->Bool
 |.mm _ _ k=>k==n
 |.bb _ _ k=>k==n
 |.ag l=>I l==n&&l.all E.dc
 |.sz _ k=>k==n
 |_=>xw
def qD(e:E):E:=if e.dc then e else .one e
def DU(e:E)(n:Nat):E:=if e.rf n then e else .sz e n
def Vf(ag:Bool)(n:Nat)(e:E):E:=if ag then DU e n else qD e
inductive TD where
 |sc|sl (e:TypeId)|st (fs:List<|Nat×Nat×Bool×Bool)|ar (n:Nat) (e:TypeId)|pt (e:TypeId)|no
 deriving DecidableEq,Inhabited
def Vi:Value->Option V
 |.int k n=>J<|.int k n
 |.bool b=>J<|.bool b
 |.string s=>J<|.str s
 |.slice U 0 0=>J<|.sl []
 |.func (.func f) first a=>if first.size=0/\a.size=0 then J (.fn f)else U
 |.map U=>J<|.mp 0 [] []
 |.pointer U=>J<|.lx 0
 |.nilFunc=>J<|.lx 1
 |_=>U
def Y9(P:Program)(t:TypeId):Bool:=
 match P.underlying t with
 |some (.struct _)|some (.array _ _)=>xk
 |_=>xw
def zeroCells(P:Program)(t:TypeId):Option<|List V:=
 ((P.info? t).bind (·.zero)).bind λz=>z.cells.toList.mapM Vi
def XI(P:Program)(t:TypeId):Bool:=
 match P.underlying t with
 |some .bool|some (.int _)|some .string=>xk
 |some (.struct _)|some (.array _ _)=>match zeroCells P t with|some l=>l.all V.bf|none=>xw
 |some (.tuple a)=>a.all λu=>match P.underlying u with
  |some .bool|some (.int _)|some .string=>xk
  |some (.struct _)|some (.array _ _)=>(match zeroCells P u with|some l=>l.all V.bf|none=>xw)
  |_=>xw
 |_=>xw
def X5(P:Program)(T:TypeId):Bool:=(P.underlying T).isSome&&(P.info? T).isSome
def VM(P:Program)(t:TypeId):TD:=
 match P.underlying t with
 |some .bool|some (.int _)|some .string=>.sc
 |some (.slice e)=>.sl e
 |some (.struct a)=>if a.toList.all (λf=>X5 P f.type)then .st (a.toList.map λf=>(f.offset,P.cellsOf f.type,Y9 P f.type,XI P f.type))else .no
 |some (.array n e)=>.ar n e
 |some (.pointer e)=>.pt e
 |_=>.no
def Uv(P:Program)(a:TypeId):Bool:=
 match P.info? a with
 |some i=>match i.zero with
  |some z=>z.cells.size==i.size&&decide (0<i.size)&&decide (i.bytes<=32768)
  |none=>xw
 |none=>xw
inductive CK where
 |fz|own (ty:TypeId)|nil|gc
 deriving DecidableEq,Inhabited
inductive OT where
 |fz|own (ty:TypeId)|nil|mem (l:List CK)|cq (f:FuncId) (caps:List Nat)
 deriving DecidableEq,Inhabited
inductive TK where
 |no
 |val (e:E) (sh:List Nat)
 |own (ty:TypeId) (e:E)
 |nil
 |mem (cs:List<|CK×E)
 |iw (cs:List<|CK×E)
 |gy (p:Nat)
 |fq (p i:Nat)
 |pm (p o:Nat)
 |pc (e:E) (o:Nat) (sh:List Nat)
 |pe (p:Nat) (i:Option Nat) (j:E) (o k:Nat)
 |pa (p o:Nat) (j:E) (n k:Nat)
 |cq (f:FuncId) (caps:List Nat)
 |oi (e:E) (sh:List Nat)
 deriving Inhabited
def TK.bj:TK->Bool
 |.no=>xk
 |_=>xw
abbrev ZF:=List<|Nat×Bool
abbrev Gam:=List<|Nat×ZF×TK
def Gam.at(g:Gam)(t:Nat):ZF×TK:=
 match g with
 | []=>([],.no)
 |(u,x)::r=>if u=t then x else Gam.at r t
def memOf(g:Gam)(p:Nat):Option<|List<|CK×E:=
 match g.at p with
 |([],.mem a)=>J a
 |_=>U
def ownOf(g:Gam)(p:Nat):Option<|TypeId×E:=
 match g.at p with
 |([],.own a e)=>J (a,e)
 |_=>U
def Q6(a b:ZF):Bool:=a.all λx=>b.contains x
def look(g:Gam)(C:ZF)(t:Nat):TK:=let x:=g.at t;if Q6 x.1 C then x.2 else .no
def UY(cs:List<|CK×E):Bool:=cs.any λc=>match c.1 with|.own _=>xk|_=>xw
def WA(cs:List<|CK×E):Bool:=cs.any λc=>c.1==.gc
def ownAt(g:Gam):TK->Option (TypeId×E)
 |.gy p=>ownOf g p
 | .fq p i=>(memOf g p).bind λa=>match a[i]? with
   |some (.own d,e)=>J (d,e)
   |_=>U
 |_=>U
def Wj(g:Gam)(k:TK)(t:Nat):Option<|E×List Nat:=
 match k with
 |.val e d=>J (e,d)
 |.own _ e=>J (e,[t])
 |.nil=>J (.c<|.sl [],[])
 |.iw a=>if WA a then U else J (.ag (a.map (·.2)),if UY a then [t]else [])
 |.gy p=>(ownAt g<|.gy p).map λx=>(x.2,[p])
 |.fq p i=>(ownAt g<|.fq p i).map λx=>(x.2,[p])
 |_=>U
def Yr(g:Gam)(C:ZF)(x:Operand):TK:=
 match x with
 |.const (.slice U 0 0)=>.nil
 |.const v=>match Vi v with|some x=>.val (.c x) [] |none=>.no
 |.tmp t=>look g C t
 |.func f=>.val (.c<|.fn f) []
 |_=>.no
def Ro:Operand->Nat
 |.tmp t=>t
 |_=>0
def YE(g:Gam)(C:ZF)(x:Operand):Option<|E×List Nat:=
 Wj g (Yr g C x) (match x with|.tmp t=>t|_=>0)
def XT(fl:Bool)(b:E×List Nat):E×List Nat:=if b.2.isEmpty then b else if fl then(.fl b.1,[])else b
def Ln(g:Gam)(C:ZF)(fl:Bool):List Operand->Option (List E×List Nat)
 | []=>J ([],[])
 |x::l=>(YE g C x).bind λd=>(Ln g C fl l).map λb=>let a:=XT fl d;(a.1::b.1,a.2++b.2)
def Kv(g:Gam):List Nat->Option (List E)
 | []=>J []
 |p::l=>(memOf g p).bind λa=>if WA a then U else(Kv g l).map λd=>.pt U (a.map (·.2))::d
def Uu(g:Gam)(k:TK)(t:Nat):Option<|E×List Nat:=
 match k with
 |.mem d=>if WA d then U else J (.pt U (d.map (·.2)),[t])
 |.pm p 0=>(memOf g p).bind λd=>if WA d then U else J (.pt U (d.map (·.2)),[p])
 |.cq f a=>(Kv g a).map λh=>(.pt (J f) h,a)
 |.oi e j=>J (e,j)
 |_=>U
def Ae(g:Gam)(C:ZF)(fl:Bool)(x:Operand):Option<|E×List Nat×Bool:=
 match YE g C x with
 |some a=>J ((XT fl a).1,(XT fl a).2,xw)
 |none=>(Uu g (Yr g C x)<|Ro x).map λa=>(a.1,a.2,xk)
def Ks(P:Program)(g:Gam)(C:ZF):List Operand->List TypeId->Option (List E×List Nat×Bool)
 | [],_=>J ([],[],xw)
 |x::l,d=>(Ae g C (match d with|t::_=>XI P t| []=>xw) x).bind λa=>(Ks P g C l d.tail).map λb=>(a.1::b.1,a.2.1++b.2.1,a.2.2||b.2.2)
def Tn(p:Nat):Nat->List (CK×E)->Bool
 |_,[]=>xk
 |i,(_,.m q j)::r=>p==q&&i==j&&Tn p (i+1) r
 |_,_=>xw
def E8:TK->List E
 |.val e _=>[e]
 |_=>[]
structure Ctx where
 P:Program
 ix:Nat->Nat
 own:Nat->Bool
 fresh:FuncId->Bool
 sig:FuncId->Option (List OT)
 tr:List Nat
 n:Nat
 kp:List Nat:=[]
def yZ(c:Ctx)(g:Gam)(T:TypeId)(p o:Nat):Option TK:=
 (memOf g p).bind λa=>
  if Y9 c.P T then
   let part:=(a.drop o).take<|c.P.cellsOf T
   if I part=c.P.cellsOf T/\WA part=xw/\0<c.P.cellsOf T then
    J (.val (if Tn (c.ix p) o part then .mm (c.ix p) o (I part) else .ag (part.map (·.2)))<|if UY part then [p]else [])
   else U
  else match a[o]? with
   |some (.fz,e)=>J<|.val e []
   |some (.own _,_)=>J<|.fq p o
   |some (.nil,_)=>J .nil
   |_=>U
def BJ(c:Ctx)(g:Gam)(T:TypeId)(p o:Nat)(j:E)(m k:Nat):Option TK:=
 (memOf g p).bind λa=>
  let part:=(a.drop o).take<|m*k
  if I part=m*k/\c.P.cellsOf T=k/\0<m*k/\UY part=xw/\WA part=xw then
   J (.val (.ai (if Tn (c.ix p) o part then .mm (c.ix p) o (I part) else .ag (part.map (·.2))) j m k<|Y9 c.P T) [])
  else U
def Kz(c:Ctx)(T:TypeId)(e:E)(o:Nat):E:=if Y9 c.P T then .bb e o (c.P.cellsOf T)else .ae e o
def QD(p:Nat):Option Nat->TK
 |none=>.gy p
 |some i=>.fq p i
def BK(c:Ctx)(g:Gam)(T:TypeId)(p:Nat)(i:Option Nat)(j:E)(o k:Nat):Option TK:=
 (ownAt g<|QD p i).bind λx=>if c.P.cellsOf x.1=k then J (.val (Kz c T (.az x.2 j k) o) [p])else U
def IQ(c:Ctx)(g:Gam)(T:TypeId)(k:TK)(t:Nat):Option TK:=
 match k with
 |.mem _=>yZ c g T t 0
 |.pm p o=>yZ c g T p o
 |.pc e o a=>J<|.val (Kz c T e o) a
 |.val e a=>J<|.val (Kz c T (.aq e) 0) a
 |.pe p i j o k=>BK c g T p i j o k
 |.pa p o j m k=>BJ c g T p o j m k
 |_=>U
def KJ(P:Program)(T:TypeId)(f:Nat):Option<|Nat×Nat×Bool×Bool:=
 match VM P T with
 |.st a=>a[f]?
 |_=>U
abbrev PK:=Option<|TK×List E
def TK.lr:TK->Bool
 |.own .. |.mem _|.iw _|.no=>xw
 |_=>xk
def CY(g:Gam)(C:ZF)(x:Operand):PK:=
 if(Yr g C x).lr then J (Yr g C x,[])else
 match x,Yr g C x with
 |.tmp t,.own _ _=>J (.gy t,[])
 |.tmp t,.mem _=>J (.pm t 0,[])
 |.tmp t,.iw a=>(Wj g (.iw a) t).map λy=>(.val y.1 y.2,[])
 |_,_=>U
def CZ(g:Gam)(C:ZF)(x:Operand):PK:=
 match Yr g C x with
 |.mem _=>J (.pm (Ro x) 0,[])
 |.pm p o=>J (.pm p o,[])
 |.val e a=>J (.val e a,[.aq e])
 |_=>U
def CL(c:Ctx)(g:Gam)(C:ZF)(ty:TypeId)(x:Operand):PK:=
 match Yr g C x with
 |.val e []=>J (.val e [],[])
 |.val e (p::d)=>if XI c.P ty then J (.val (.fl e) [],[.fl e])else U
 |.nil=>J (.nil,[])
 |.cq f a=>J (.cq f a,[])
 |_=>U
def CI(c:Ctx)(T:TypeId):PK:=
 (zeroCells c.P T).bind λz=>if z.isEmpty then U else J (.mem (z.map λx=>((match x with|.sl _=>CK.nil|_=>.fz),E.c x)),[])
def CN(c:Ctx)(g:Gam)(C:ZF)(T:TypeId)(x:Operand):PK:=
 match Yr g C x with
 | .val a []=>
   if X5 c.P T then
    let e:=Vf (Y9 c.P T) (c.P.cellsOf T) a
    if Y9 c.P T then J (.mem ((List.range<|c.P.cellsOf T).map λi=>(CK.fz,E.ae e i)),[e])else J (.mem [(.fz,e)],[e])
   else U
 |_=>U
def AD(P:Program)(T:TypeId):Bool:=
 match P.underlying T with
 |some .bool=>xk
 |_=>xw
def J3(P:Program)(a:TypeId->Nat->Option E)(n o:Nat):List Field->Option E
 | []=>J<|.c<|.bool xk
 |f::l=>if f.name≠ "_" /\f.offset+P.cellsOf f.type<=n then(a f.type<|o+f.offset).bind λx=>(J3 P a n o l).map λy=>.ite x y (.c<|.bool xw)else U
def Uw(P:Program)(a b:E):Nat->TypeId->Nat->Option E
 |0,_,_=>U
 |d+1,T,o=>
  match P.underlying T with
  |some .bool=>if P.cellsOf T=1 then J (.fj xw (.ae a o)<|.ae b o)else U
  |some (.int _)=>if P.cellsOf T=1 then J (.bo .eql (.ae a o)<|.ae b o)else U
  |some (.struct f)=>if f.toList≠[]/\P.cellsOf T≠0/\P.stoodInHeld T=xw then J3 P (Uw P a b d) (P.cellsOf T) o f.toList else U
  |_=>U
def Ja(P:Program)(T:TypeId)(a b:E):Option E:=
 if Y9 P T/\P.eqGuardType P.depth T=xw then Uw P (.sz (.bm a)<|P.cellsOf T) (.sz (.bm b)<|P.cellsOf T) 4 T 0 else U
def zO(P:Program)(T:TypeId)(op:BinOp)(a b:E):E:=
 if AD P T then match op with
  |.eql=>.fj xw a b
  |.neq=>.fj xk a b
  |_=>.bo op a b
 else match op with
  |.eql=>(Ja P T a b).getD<|.bo op a b
  |.neq=>((Ja P T a b).map<|.un .not).getD<|.bo op a b
  |_=>.bo op a b
def CM(c:Ctx)(g:Gam)(C:ZF)(op:BinOp)(T:TypeId)(x y:Operand):PK:=
 (YE g C x).bind λa=>(YE g C y).map λb=>let e:=zO c.P T op a.1 b.1;(.val e [],[e])
def O6(g:Gam)(C:ZF)(op:UnOp)(x:Operand):PK:=(YE g C x).map λa=>(.val (.un op a.1) [],[.un op a.1])
def O3(c:Ctx)(g:Gam)(C:ZF)(f d:TypeId)(x:Operand):PK:=
 if(c.P.underlying f).isNone then U else
 match c.P.underlying d with
 |some (.int k)=>(YE g C x).map λa=>(.val (.conv k a.1) [],[.conv k a.1])
 |_=>U
def O4(c:Ctx)(g:Gam)(C:ZF)(ty:TypeId)(x:Operand)(i:Nat):PK:=
 (YE g C x).map λa=>let y:=XT (XI c.P ty) (.ext a.1 i,a.2);(.val y.1 y.2,[y.1])
def CT(c:Ctx)(g:Gam)(C:ZF)(T:TypeId)(a:Operand):PK:=
 if X5 c.P T then(IQ c g T (Yr g C a)<|Ro a).map λk=>(k,E8 k)else U
def CP(c:Ctx)(g:Gam)(C:ZF)(T:TypeId)(a:Operand)(f:Nat):PK:=
 (KJ c.P T f).bind λx=>if x.2.1=0 then U else
  match Yr g C a with
  |.mem _=>J (.pm (Ro a) x.1,[])
  |.pm p q=>J (.pm p<|q+x.1,[])
  |.pc e q d=>J (.pc e (q+x.1) d,[])
  |.val e d=>J (.pc (.aq e) x.1 d,[.aq e])
  |.pe p i j q k=>J (.pe p i j (q+x.1) k,[])
  |_=>U
def yS(c:Ctx)(g:Gam)(p:Nat)(i:Option Nat)(a:TypeId)(j:E):PK:=
 (ownAt g<|QD p i).bind λx=>if c.P.cellsOf x.1=c.P.cellsOf a/\X5 c.P a=xk then J (.pe p i j 0<|c.P.cellsOf a,[.az x.2 j<|c.P.cellsOf a])else U
def CS(c:Ctx)(g:Gam)(C:ZF)(T:TypeId)(x i:Operand):PK:=
 match VM c.P T with
 | .sl a=>(YE g C i).bind λj=>
   match Yr g C x with
   |.gy p=>yS c g p U a j.1
   |.fq p q=>yS c g p (J q) a j.1
   |.val e d=>if X5 c.P a then J (.pc (.az e j.1<|c.P.cellsOf a) 0 d,[.az e j.1<|c.P.cellsOf a])else U
   |_=>U
 | .ar n a=>if !X5 c.P a then U else(YE g C i).bind λj=>
   match Yr g C x with
   |.mem _=>J (.pa (Ro x) 0 j.1 n<|c.P.cellsOf a,[.ai (.c<|.agg<|List.replicate n<|.bool xk) j.1 n 1 xw])
   |.pm p o=>J (.pa p o j.1 n<|c.P.cellsOf a,[.ai (.c<|.agg<|List.replicate n<|.bool xk) j.1 n 1 xw])
   |.pc e q d=>let f:=E.ai (.bb e q<|n*c.P.cellsOf a) j.1 n (c.P.cellsOf a) xk;J (.pc f 0 d,[f])
   |_=>U
 |_=>U
def CQ(c:Ctx)(g:Gam)(C:ZF)(T:TypeId)(x:Operand)(f:Nat):PK:=
 (KJ c.P T f).bind λy=>if y.2.1=0 then U else(YE g C x).map λa=>
  let e:=if y.2.2.1 then E.bb (.bm a.1) y.1 y.2.1 else .ae (.bm a.1) y.1
  (.val e a.2,[e])
def CR(c:Ctx)(g:Gam)(C:ZF)(T:TypeId)(x i:Operand):PK:=
 match VM c.P T with
 | .ar n d=>if !X5 c.P d then U else(YE g C x).bind λa=>(YE g C i).map λb=>
   let e:=E.ai a.1 b.1 n (c.P.cellsOf d)<|Y9 c.P d
   (.val e a.2,[e])
 |_=>U
def Lm(g:Gam)(C:ZF):Option Operand->Option E
 |some l=>(YE g C l).map Prod.fst
 |none=>J<|.c<|.int .i64 0
def Cj(g:Gam)(C:ZF)(a l:E)(k:Nat):Option Operand->Option E
 |some h=>(YE g C h).map λy=>.gz a l y.1 k
 |none=>J<|.fg a l k
def D2(c:Ctx)(g:Gam)(C:ZF)(T:TypeId)(x:Operand)(h f:Option Operand):PK:=
 match VM c.P T with
 | .sl d=>if X5 c.P d then(YE g C x).bind λa=>
   (Lm g C h).bind λl=>(Cj g C a.1 l (c.P.cellsOf d) f).map λe=>(.val e a.2,[e])else U
 |_=>U
def CE(g:Gam)(C:ZF)(n:Nat)(ag fl:Bool)(x:Operand):Option<|List (CK×E)×List Nat×List Nat:=
 match x,Yr g C x with
 |.tmp t,.own f e=>J ([(.own f,e)],[],[t])
 |_,.nil=>J ([(.nil,.c<|.sl [])],[],[])
 |_,_=>(YE g C x).map λd=>let a:=XT fl d;let e:=Vf ag n a.1;(if ag then(List.range n).map λj=>(.fz,.ae e j)else [(.fz,e)],a.2,[])
abbrev BC:=List (CK×E)×List Nat×List Nat
def zq(a:List V)(o n:Nat):BC:=(((a.drop o).take n).map λz=>((match z with|.sl _=>CK.nil|_=>CK.fz),E.c z),[],[])
def NV(g:Gam)(C:ZF)(a:List V)(parts:List<|Nat×Operand)(f:Nat×Nat×Bool×Bool)(i:Nat):Option BC:=
 match parts.find? (λp=>p.1==i)with
 |some p=>CE g C f.2.1 f.2.2.1 f.2.2.2 p.2
 |none=>J<|zq a f.1 f.2.1
def Sq:List Nat->Bool
 | []=>xk
 |x::l=> !l.contains x&&Sq l
def Kt(g:Gam)(C:ZF)(d:List V)(parts:List<|Nat×Operand):List (Nat×Nat×Bool×Bool)->Nat->Nat->Option BC
 | [],_,o=>if o=(I d) then J ([],[],[])else U
 |f::r,i,o=>(NV g C d parts f i).bind λa=>if f.1=o/\I a.1=f.2.1/\f.2.1≠0 then(Kt g C d parts r (i+1)<|o+f.2.1).map λb=>(a.1++b.1,a.2.1++b.2.1,a.2.2++b.2.2)else U
def zS(g:Gam)(C:ZF)(a:List V)(parts:List<|Nat×Operand)(fs:List<|Nat×Nat×Bool×Bool):Option BC:=
 if Sq (parts.map (·.1))&&parts.all (λp=>decide (p.1<I fs))then Kt g C a parts fs 0 0 else U
def Z2s(cs:List<|CK×E):Bool:=cs.all λc=>c.1==.fz
def qS(P:Program)(T:TypeId):Option<|List<|Nat×Nat×Bool×Bool:=
 match VM P T with
 |.st d=>J d
 |.ar n a=>if X5 P a then J ((List.range n).map λi=>(i*P.cellsOf a,P.cellsOf a,Y9 P a,XI P a))else U
 |_=>U
def O2(c:Ctx)(g:Gam)(C:ZF)(T:TypeId)(parts:List<|Nat×Operand):PK:=
 (qS c.P T).bind λa=>(zeroCells c.P T).bind λd=>(zS g C d parts a).bind λb=>
  if b.2.2.isEmpty then
   let e:=E.ag (b.1.map (·.2))
   if b.2.1.isEmpty&& !Z2s b.1 then J (.iw b.1,[e])else J (.val e b.2.1,[e])
  else U
def TX(c:Ctx)(a:Option Nat)(f:TypeId)(e:E)(sh:List Nat):PK:=
 match a with
 |some d=>if c.own d&&sh.isEmpty then J (.own f e,[e])else J (.val e sh,[e])
 |none=>U
def CO(c:Ctx)(g:Gam)(C:ZF)(d:Option Nat)(T:TypeId)(n:Nat)(parts:List<|Nat×Operand):PK:=
 match VM c.P T with
 | .sl a=>(Ln g C (XI c.P a) (parts.map (·.2))).bind λf=>
   if parts.map (·.1)=List.range n/\n<256/\c.P.cellsOf a<256/\Uv c.P a=xk/\(Y9 c.P a=xk\/c.P.cellsOf a=1)then TX c d a (.lit<|f.1.map<|Vf (Y9 c.P a)<|c.P.cellsOf a) f.2 else U
 |_=>U
def Ds:Operand->Operand->Bool
 |.tmp t,.tmp u=>t==u
 |.const (.int _ x),.const (.int _ y)=>x==y
 |_,_=>xw
def CV(c:Ctx)(g:Gam)(C:ZF)(f:Option Nat)(T:TypeId)(n m:Operand):PK:=
 match VM c.P T with
 | .sl d=>(zeroCells c.P d).bind λz=>(YE g C n).bind λa=>
   if Ds n m&&Uv c.P d&&(Y9 c.P d||I z==1)then TX c f d (.mk (if Y9 c.P d then .agg z else z.headD<|.agg []) a.1) []else U
 |_=>U
def O5(c:Ctx)(g:Gam)(C:ZF)(T:TypeId)(x:Operand):PK:=
 match c.P.underlying T with
 |some (.slice _)=>(YE g C x).map λa=>(.val (.len a.1) [],[.len a.1])
 |some (.array n _)=>J (.val (.c<|.int .i64 n) [],[])
 |some (.map _ _)=>(YE g C x).map λa=>(.val (.dz a.1) [],[.dz a.1])
 |_=>U
def Kw(g:Gam)(C:ZF):List Operand->Option (List Nat)
 | []=>J []
 |x::l=>match x,Yr g C x with
  |.tmp t,.mem _=>(Kw g C l).map (t:: ·)
  |_,_=>U
def CW(g:Gam)(C:ZF)(f:Go.Fn)(first a:List Operand):PK:=
 match f,first,a with
 |.func f,[],[]=>J (.val (.c<|.fn f) [],[])
 |.func f,[],l=>(Kw g C l).map λd=>(.cq f d,[])
 |_,_,_=>U
def yU(P:Program)(t:TypeId):Option KC:=
 match P.underlying t with
 |some .bool=>J .b
 |some (.int k)=>J<|.i k
 |some .string=>J .s
 |_=>U
def En(P:Program)(t:TypeId):Option V:=
 ((P.info? t).bind (·.zero)).bind λz=>match z with
   |.agg a=>(a.toList.mapM Vi).map .agg
   |v=>Vi v
def Bv(P:Program)(t:TypeId):Bool:=
 match P.underlying t with
 |some (.map _ _)=>xk
 |_=>xw
def CX(c:Ctx)(T:TypeId):PK:=if Bv c.P T then J (.own T<|.c<|.mp 0 [] [],[])else U
def LA(c:Ctx)(g:Gam)(C:ZF)(T:TypeId)(x k:Operand)(ok:Bool):PK:=
 match c.P.underlying T with
 |some (.map h d)=>(yU c.P h).bind λf=>(En c.P d).bind λz=>(YE g C x).bind λa=>(YE g C k).map λb=>
   let e:=E.lk f a.1 b.1 z ok
   (.val e a.2,[e])
 |_=>U
def Gw(P:Program)(T:TypeId):Bool:=
 match P.underlying T with
 |some (.map _ a)=>XI P a
 |_=>xw
def CU(c:Ctx)(g:Gam)(C:ZF)(T:TypeId)(x k:Operand)(ok:Bool):PK:=
 (LA c g C T x k ok).bind λr=>match r.1 with
 |.val e a=>let y:=XT (!ok&&Gw c.P T) (e,a);J (.val y.1 y.2,[y.1])
 |_=>U
def qU(g:Gam)(C:ZF)(mx:Bool)(x y:Operand):PK:=
 (YE g C x).bind λa=>(YE g C y).map λb=>let e:=if mx then E.mx a.1 b.1 else .mn a.1 b.1;(.val e [],[e])
def R6(fl:Bool)(b:E×List Nat):E×List Nat:=if b.2.isEmpty then b else if fl then(.iy b.1,[])else b
def CJ(c:Ctx)(g:Gam)(C:ZF)(a:Option Nat)(T h:TypeId)(x y:Operand):PK:=
 match VM c.P T with
 |.sl f=>if T=h/\Uv c.P f=xk then
   match Yr g C x with
   | .nil=>(YE g C y).bind λb=>
     let y:=R6 (XI c.P f) b
     if(match a with|some d=>c.own d|none=>xw)&& !y.2.isEmpty then U else TX c a f (.app (.c<|.sl []) y.1<|c.P.cellsOf f) y.2
   |_=>U
  else U
 |_=>U
def pk(c:Ctx)(g:Gam)(C:ZF)(o:Oper):PK:=
 match o.op with
 |.move x=>CY g C x
 |.nilCheck x=>CZ g C x
 |.assign x=>CL c g C o.type x
 |.alloc T=>CI c T
 |.box T x=>CN c g C T x
 |.binOp op T x y _=>CM c g C op T x y
 |.unOp op _ x=>O6 g C op x
 |.convert j h x=>O3 c g C j h x
 |.extract x i=>O4 c g C o.type x i
 |.load T a=>CT c g C T a
 |.fieldAddr T a f=>CP c g C T a f
 |.indexAddr T x i=>CS c g C T x i
 |.field T x f=>CQ c g C T x f
 |.index T x i=>CR c g C T x i
 |.slice T x p l U=>D2 c g C T x p l
 |.build T parts=>O2 c g C T parts.toList
 |.buildSlice T n parts=>CO c g C o.dst T n parts.toList
 |.makeSlice T n m=>CV c g C o.dst T n m
 |.makeFunc f first d=>CW g C f first.toList d.toList
 |.makeMap T U=>CX c T
 |.lookup T x k ok=>CU c g C T x k ok
 | .call {callee:=.builtin .len,args,argTypes}=>match args.toList,argTypes.toList with
   | [x],[T]=>O5 c g C T x
   |_,_=>U
 | .call {callee:=.builtin .min,args, .. }=>match args.toList with
   | [x,y]=>qU g C xw x y
   |_=>U
 | .call {callee:=.builtin .max,args, .. }=>match args.toList with
   | [x,y]=>qU g C xk x y
   |_=>U
 | .call {callee:=.builtin .append,args,argTypes}=>match args.toList,argTypes.toList with
   | [x,y],[T,q]=>CJ c g C o.dst T q x y
   |_,_=>U
 |_=>U
inductive FN where
 |id (f:FuncId)
 |e (x:E)
 deriving Inhabited
def FN.es:FN->List E
 |.id _=>[]
 |.e x=>[x]
inductive EF where
 |lt (i:Nat) (C:ZF) (e:E)
 |call (i:Nat) (C:ZF) (f:FN) (fr fl:Bool) (args:List E)
 |co (i:Nat) (C:ZF) (f:FN) (ks:List OT) (args:List E)
 deriving Inhabited
inductive OV where
 |v (e:E)
 |m (l:List E)
 |no
 deriving Inhabited
structure Reg where
 efs:List EF
 chks:List<|ZF×E
 outs:List<|Nat×OV
 deriving Inhabited
structure OS where
 d:Gam
 ps:List Nat
 rb:List Nat
 fz:List Nat
 efs:List EF
 chks:List<|ZF×E
 deriving Inhabited
def Hk:CK->CK
 |.own _=>.fz
 |k=>k
def Qg:TK->TK
 |.own _ e=>.val e []
 |.iw a=>if WA a then .no else .val (.ag (a.map (·.2))) []
 |.mem a=>.mem (a.map λc=>(Hk c.1,c.2))
 |k=>k
def Jp(fz:List Nat):TK->Bool
 |.pe q _ _ _ _=>fz.contains q
 |_=>xw
def UT(p:Nat):TK->Bool
 |.val _ a=>a.contains p
 |.gy q=>p==q
 |.fq q _=>p==q
 |.pc _ _ a=>a.contains p
 |.pe q _ _ _ _=>p==q
 |.oi _ a=>a.contains p
 |_=>xw
def leads(p:Nat):TK->Bool
 |.pa q _ _ _ _=>p==q
 |.pm q _=>p==q
 |.cq _ a=>a.contains p
 |_=>xw
def VB(ps rb fz:List Nat)(k:TK):Bool:= !(ps.any λp=>UT p k)&& !(rb.any λp=>leads p k)&& !Jp fz k
def Wl(ps rb fz:List Nat)(g:Gam):Gam:=g.filterMap λx=>if VB ps rb fz x.2.2 then U else J (x.1,[],.no)
def Ui(fz:List Nat)(g:Gam):Gam:=fz.map λp=>(p,(g.at p).1,Qg (g.at p).2)
def frz(fz:List Nat)(g:Gam):Gam:=Wl [] [] fz g++Ui fz g++g
def ZT(g:Gam):List Nat:=g.map (·.1)
structure MS where
 d:Gam
 ps:List Nat
 rb:List Nat
 fz:List Nat
 es:List E
 deriving Inhabited
def Rg(g:Gam)(fl:Bool)(x:Operand):Option<|E×List Nat:=(YE g [] x).map λa=>XT fl a
def JW(cs:List<|CK×E)(o:Nat)(new:List<|CK×E):List<|CK×E:=cs.take o++new++cs.drop (o+I new)
def UN(g:Gam)(p o:Nat)(new:List<|CK×E):Option TK:=
 (memOf g p).bind λa=>if o+I new<=(I a) then J (.mem<|JW a o new)else U
def Ht(c:Ctx)(g:Gam)(d:Nat):TK->Option (Nat×TypeId×E)
 |.gy p=>if c.tr.contains d&&p !=d then(ownOf g p).map λy=>(p,y.1,y.2)else U
 |_=>U
def qf(c:Ctx)(g:Gam)(ty:TypeId)(d:Nat)(x:Operand):Option MS:=
 match x,Yr g [] x with
 |.tmp t,.own ty e=>if t=d\/(g.at t).1≠[]then U else J {d:=[(d,[],.own ty e),(t,[],.no)],ps:=[d,t],rb:=[d,t],fz:=[],es:=[]}
 |.tmp t,.mem f=>if t=d\/(g.at t).1≠[]then U else J {d:=[(d,[],.mem f),(t,[],.no)],ps:=[d,t],rb:=[d,t],fz:=[],es:=[]}
 | .tmp _,.pm p 0=>if c.tr.contains d&&p !=d then(memOf g p).bind λf=>if WA f then U else
   J {d:=[(d,[],.val (.pt U (f.map (·.2))) []),(p,[],.no)],ps:=[d,p],rb:=[d,p],fz:=[],es:=[.pt U (f.map (·.2))]}else U
 |_,.nil=>J {d:=[(d,[],.nil)],ps:=[d],rb:=[d],fz:=[],es:=[]}
 |_,k=>match Ht c g d k with
  |some (p,ty,e)=>J {d:=[(d,[],.own ty e),(p,[],.no)],ps:=[d,p],rb:=[d,p],fz:=[],es:=[]}
  |none=>(Rg g (XI c.P ty) x).map λa=> {d:=[(d,[],.val a.1 [])],ps:=[d],rb:=[d],fz:=a.2,es:=[a.1]}
def qi(c:Ctx)(g:Gam)(T:TypeId)(p o:Nat)(x:Operand):Option MS:=
 let n:=c.P.cellsOf T
 if Y9 c.P T then
  match x,Yr g [] x with
  |.tmp t,.iw f=>if I f=n/\t≠p/\(g.at t).1=[]then(UN g p o f).map λk=> {d:=[(p,[],k),(t,[],.no)],ps:=[p,t],rb:=[t],fz:=[],es:=[]}else U
  |_,_=>(Rg g (XI c.P T) x).bind λa=>let e:=Vf xk n a.1;(UN (frz a.2 g) p o<|(List.range n).map λj=>(CK.fz,E.ae e j)).map λk=> {d:=[(p,[],k)],ps:=[p],rb:=[],fz:=a.2,es:=[e]}
 else match x,Yr g [] x with
  |.tmp t,.own h e=>if t≠p/\(g.at t).1=[]then(UN g p o [(.own h,e)]).map λk=> {d:=[(p,[],k),(t,[],.no)],ps:=[p,t],rb:=[t],fz:=[],es:=[]}else U
  |_,.nil=>(UN g p o [(.nil,.c<|.sl [])]).map λk=> {d:=[(p,[],k)],ps:=[p],rb:=[],fz:=[],es:=[]}
  |_,_=>(Rg g (XI c.P T) x).bind λa=>let e:=qD a.1;(UN (frz a.2 g) p o [(.fz,e)]).map λk=> {d:=[(p,[],k)],ps:=[p],rb:=[],fz:=a.2,es:=[e]}
def C2(c:Ctx)(g:Gam)(T:TypeId)(p:Nat)(i:Option Nat)(j:E)(o k:Nat)(x:Operand):Option MS:=
 (Rg g (XI c.P T) x).bind λa=>let e:=Vf (Y9 c.P T) (c.P.cellsOf T) a.1;let g:=frz a.2 g
  if a.2.contains p then U else
  match i with
  |none=>(ownOf g p).bind λx=>let f:=E.upd x.2 j o e;if c.P.cellsOf x.1=k then J {d:=[(p,[],.own x.1 f)],ps:=[p],rb:=[],fz:=a.2,es:=[f]}else U
  |some q=>(memOf g p).bind λl=>match l[q]? with
   |some (.own h,n)=>let f:=E.upd n j o e;if c.P.cellsOf h=k then(UN g p q [(.own h,f)]).map λk=> {d:=[(p,[],k)],ps:=[p],rb:=[],fz:=a.2,es:=[f]}else U
   |_=>U
def C1(c:Ctx)(g:Gam)(T:TypeId)(p o:Nat)(j:E)(n k:Nat)(x:Operand):Option MS:=
 (Rg g (XI c.P T) x).bind λf=>let a:=(Vf (Y9 c.P T) (c.P.cellsOf T) f.1,f.2);if !a.2.isEmpty||c.P.cellsOf T≠k then U else
  (memOf g p).bind λl=>
   let part:=(l.drop o).take<|n*k
   if I part=n*k/\part.all (λx=>x.1==.fz)then
    let h:=E.df (if Tn (c.ix p) o part then .mm (c.ix p) o (n*k)else .ag (part.map (·.2))) j n k a.1
    (UN g p o<|(List.range<|n*k).map λi=>(CK.fz,E.ae h i)).map λk=> {d:=[(p,[],k)],ps:=[p],rb:=[],fz:=[],es:=[h]}
   else U
def BX(c:Ctx)(g:Gam)(d:Nat)(T:TypeId)(parts:List<|Nat×Operand):Option MS:=
 (qS c.P T).bind λf=>(zeroCells c.P T).bind λh=>(zS g [] h parts f).bind λb=>
  let a:=b.2.2
  if a.any (λt=>b.2.1.contains t||t==d|| !(g.at t).1.isEmpty)|| !Sq a then U else
  J {d:=(d,[],.iw b.1)::a.map λt=>(t,[],.no),ps:=d::a,rb:=d::a,fz:=b.2.1,es:=[.ag (b.1.map (·.2))]}
def Ma(c:Ctx)(g:Gam)(T:TypeId)(a x:Operand):Option MS:=
 if !X5 c.P T|| !(Y9 c.P T||c.P.cellsOf T==1)then U else
 match Yr g [] a with
 |.mem _=>qi c g T (Ro a) 0 x
 |.pm p o=>qi c g T p o x
 |.pe p i j o k=>C2 c g T p i j o k x
 |.pa p o j n k=>C1 c g T p o j n k x
 |_=>U
def BV(c:Ctx)(g0:Gam)(d:Nat)(T n:TypeId)(x y:Operand):Option MS:=
 match VM c.P T with
 |.sl f=>if T=n/\Uv c.P f=xk then
   (YE g0 [] y).bind λj=>
    let b:=R6 (XI c.P f) j;let g:=frz b.2 g0
    match x,Yr g [] x with
    |_,.nil=>let a:=E.app (.c<|.sl []) b.1<|c.P.cellsOf f;J {d:=[(d,[],.own f a)],ps:=[d],rb:=[d],fz:=b.2,es:=[a]}
    |.tmp t,.own h e=>if h=f/\t≠d/\(g.at t).1=[]then let a:=E.app e b.1<|c.P.cellsOf f;J {d:=[(d,[],.own h a),(t,[],.no)],ps:=[d,t],rb:=[d,t],fz:=b.2,es:=[a]}else U
    |_,.gy p=>(ownOf g p).bind λx=>if x.1=f/\p≠d then let a:=E.app x.2 b.1<|c.P.cellsOf f;J {d:=[(d,[],.own x.1 a),(p,[],.no)],ps:=[d,p],rb:=[d,p],fz:=b.2,es:=[a]}else U
    |_,.fq p i=>(memOf g p).bind λl=>match l[i]? with
     |some (.own h,e)=>if h=f/\p≠d then let a:=E.app e b.1<|c.P.cellsOf f;(UN g p i [(.gc,.c<|.sl [])]).map λk=> {d:=[(d,[],.own h a),(p,[],k)],ps:=[d,p],rb:=[d],fz:=b.2,es:=[a]}else U
     |_=>U
    |_,_=>U
  else U
 |_=>U
def BW(c:Ctx)(g:Gam)(d:Nat)(T:TypeId)(x:Operand):Option MS:=
 match x,Yr g [] x with
 |.tmp t,.own f e=>if t≠d/\(g.at t).1=[]then J {d:=[(d,[],.mem [(.own f,e)]),(t,[],.no)],ps:=[d,t],rb:=[d,t],fz:=[],es:=[]}else U
 |.tmp t,.iw a=>if t≠d/\(g.at t).1=[]then J {d:=[(d,[],.mem a),(t,[],.no)],ps:=[d,t],rb:=[d,t],fz:=[],es:=[]}else U
 |_,_=>U
def BQ(g:Gam)(x:Operand):Option<|Nat×Option Nat×TypeId×E:=
 match x,Yr g [] x with
 |.tmp t,.own a e=>if(g.at t).1=[]then J (t,U,a,e)else U
 |_,.gy p=>(ownOf g p).map λy=>(p,U,y.1,y.2)
 |_,.fq p i=>(memOf g p).bind λd=>match d[i]? with
  |some (.own a,e)=>J (p,J i,a,e)
  |_=>U
 |_,_=>U
def Oj(g:Gam)(p:Nat)(i:Option Nat)(ty:TypeId)(e:E):Option TK:=
 match i with
 |none=>J<|.own ty e
 |some i=>UN g p i [(.own ty,e)]
def qh(g:Gam)(T:TypeId)(m:Operand)(f:E->E):Option MS:=
 (BQ g m).bind λx=>if x.2.2.1=T then(Oj g x.1 x.2.1 T<|f x.2.2.2).map λk=> {d:=[(x.1,[],k)],ps:=[x.1],rb:=[],fz:=[],es:=[f x.2.2.2]}else U
def C0(c:Ctx)(g:Gam)(T:TypeId)(m k v:Operand):Option MS:=
 match c.P.underlying T with
 |some (.map f _)=>(yU c.P f).bind λd=>(YE g [] k).bind λb=>(YE g [] v).bind λa=>if !a.2.isEmpty then U else qh g T m λe=>.dg d e b.1 a.1
 |_=>U
def BY(c:Ctx)(g:Gam)(T:TypeId)(m:Operand):Option MS:=if Bv c.P T then qh g T m .fe else U
def mk(c:Ctx)(g:Gam)(o:Oper):Option MS:=
 match o.op,o.dst with
 |.assign x,J d=>qf c g o.type d x
 |.move x,J d=>qf c g o.type d x
 |.store T a x,U=>Ma c g T a x
 |.build T parts,J d=>BX c g d T parts.toList
 |.box T x,J d=>BW c g d T x
 |.mapUpdate T m k v,U=>C0 c g T m k v
 | .call {callee:=.builtin .clear,args,argTypes},U=>match args.toList,argTypes.toList with
   | [x],[T]=>BY c g T x
   |_,_=>U
 | .call {callee:=.builtin .append,args,argTypes},J d=>match args.toList,argTypes.toList with
   | [x,y],[T,f]=>BV c g d T f x y
   |_,_=>U
 |_,_=>U
def zY(c:Ctx)(ops:Array Oper)(g:Gam)(o:Oper):Option ZF:=
 match o.guard with
 |none=>J []
 |some (j,a)=>((ops[j]?).bind (·.dst)).bind λt=>match g.at t with
  |(C,.val (.s u) [])=>if u=c.ix t then J (C++[(t,a)])else U
  |_=>U
def ZI(c:Ctx)(C:ZF):ZF:=C.map λx=>(c.ix x.1,x.2)
def D1(c:Ctx)(g:Gam)(C:ZF)(x a b:Operand):PK:=
 match x,Yr g C x with
 | .tmp t,.val (.s u) []=>if u≠c.ix t then U else(YE g (C++[(t,xk)]) a).bind λy=>(YE g (C++[(t,xw)]) b).map λz=>
   let e:=E.ite (.s<|c.ix t) y.1 z.1
   (.val e<|y.2++z.2,[e])
 |_,_=>U
def Am(g:Gam)(C:ZF)(o:Oper):Option<|FN×List Nat×List Operand×List TypeId:=
 match o.op with
 |.call {callee:=.value<|.func f,args,argTypes}=>J (.id f,[],args.toList,argTypes.toList)
 | .call {callee:=.value<|.tmp t,args,argTypes}=>match Yr g C (.tmp t)with
   |.val e a=>J (.e e,a,args.toList,argTypes.toList)
   |_=>U
 |_=>U
def Z7O(g:Gam)(t:Nat):Bool:=
 match(g.at t).2 with
 |.own .. |.mem _=>xk
 |_=>xw
def IG:TK->List Nat
 |.gy p|.fq p _|.pm p _|.pe p _ _ _ _|.pa p _ _ _ _=>[p]
 |.val _ d|.pc _ _ d|.oi _ d=>d
 |.cq _ a=>a
 |_=>[]
def Z4q(ops:Array Oper)(o:Oper):List Nat:=
 match o.guard with
 |none=>[]
 |some (j,_)=>((ops[j]?).bind (·.dst)).toList
def Tg(ops:Array Oper)(g:Gam)(o:Oper):List Nat:=
 let a:=(o.op.operands.toList.filterMap λx=>match x with|.tmp t=>J t|_=>U)++Z4q ops o++o.dst.toList;let d:=a++a.flatMap λt=>IG (g.at t).2
 d++d.flatMap λt=>IG (g.at t).2
def only(g:Gam)(R:List Nat):Gam:=R.map λt=>(t,g.at t)
def Jj(c:Ctx):FN->Bool
 |.id f=>c.fresh f
 |.e _=>xw
def DM(c:Ctx)(g:Gam)(C:ZF)(ty:TypeId)(d:Nat)(f:FN)(sh:List Nat)(args:List Operand)(ts:List TypeId):Option OS:=
 if !(g.at d).2.bj then U else(Ks c.P g C args ts).map λaq_=>
  let fl:=(!(aq_.2.1++sh).isEmpty||aq_.2.2)&& !Jj c f&&XI c.P ty
  {d:=[(d,C,if aq_.2.2&& !(fl||Jj c f)then .oi (.s<|c.ix d) (aq_.2.1++sh)else .val (.s<|c.ix d) (if fl||Jj c f then []else aq_.2.1++sh))],ps:=[d],rb:=[d],fz:=[],efs:=[.call (c.ix d) (ZI c C) f (Jj c f) fl aq_.1],chks:=[]}
inductive AP where
 |op (x:Operand) (ty:TypeId)
 |cap (p:Nat)
 deriving Inhabited
def Sl(P:Program):CK->CK->Bool
 |.own a,.own b=>a==b
 |.nil,.own a=>decide (0<P.cellsOf a)
 |.nil,.nil|.nil,.fz|.fz,.fz|.own _,.fz=>xk
 |_,.gc=>xk
 |_,_=>xw
def Jt(P:Program):List CK->List CK->Bool
 | [],[]=>xk
 |a::l,b::r=>Sl P a b&&Jt P l r
 |_,_=>xw
def JF(P:Program):List CK->List CK->Bool
 | [],[]=>xk
 |a::l,b::r=>(a==b||(match a,b with|.nil,.own d=>decide (0<P.cellsOf d)|.nil,.fz=>xk|_,_=>xw))&&JF P l r
 |_,_=>xw
def DJ(g:Gam)(C:ZF):AP->Option Nat
 |.cap p=>J p
 | .op (.tmp t) _=>match Yr g C (.tmp t)with
   |.mem _=>J t
   |.pm p 0=>J p
   |_=>U
 |_=>U
def Py(g:Gam)(C:ZF):AP->Option Nat
 | .op (.tmp t) _=>match Yr g C (.tmp t)with
   |.own _ _=>J t
   |.gy p=>J p
   |_=>U
 |_=>U
def Rs(c:Ctx)(g:Gam)(C:ZF)(k:OT)(x:AP):Option<|E×Option Nat:=
 match k with
 | .fz=>match x with
   |.op x f=>(YE g C x).bind λh=>let a:=XT (XI c.P f) h;if a.2.isEmpty then J (a.1,U)else U
   |.cap _=>U
 | .mem l=>(DJ g C x).bind λp=>(memOf g p).bind λd=>
   if !WA d&&JF c.P (d.map (·.1)) l then J (.ag (d.map (·.2)),J p)else U
 |.own f=>(Py g C x).bind λp=>(ownOf g p).bind λy=>if y.1=f then J (y.2,J p)else U
 |_=>U
def Tm(c:Ctx)(g:Gam)(C:ZF):List OT->List AP->Option (List<|E×Option Nat)
 | [],[]=>J []
 |k::d,x::l=>(Rs c g C k x).bind λa=>(Tm c g C d l).map (a:: ·)
 |_,_=>U
def Lb(i q:Nat):OT->TK
 |.mem l=>.mem (l.zipIdx.map λx=>(x.1,.ae (.ext (.s i) q) x.2))
 |.own a=>.own a<|.ext (.s i) q
 |_=>.no
def XL(i:Nat):Nat->List OT->List (E×Option Nat)->Gam
 |q,k::a,(_,J p)::l=>(p,[],Lb i q k)::XL i (q+1) a l
 |q,_::a,(_,U)::l=>XL i q a l
 |_,_,_=>[]
def DN(c:Ctx)(g all:Gam)(C:ZF)(d:Nat)(fn:FN)(ks:List OT)(a:List AP):Option OS:=
 if !(g.at d).2.bj then U else(Tm c g C ks a).bind λaq_=>
  let ps:=aq_.filterMap (·.2)
  if !Sq ps||ps.contains d then U else
  J {d:=(d,C,.val (if ps.isEmpty then .s (c.ix d)else .ext (.s<|c.ix d) 0) [])::XL (c.ix d) 1 ks aq_++Wl (d::ps) [d] [] all,ps:=d::ps,rb:=[d],fz:=[],
        efs:=[.co (c.ix d) (ZI c C) fn ks (aq_.map (·.1))],chks:=[]}
def Vx(args:List Operand)(ts:List TypeId):List AP:=
 match args,ts with
 |x::l,t::r=>.op x t::Vx l r
 |x::l,[]=>.op x 0::Vx l []
 | [],_=>[]
def Al(c:Ctx)(g:Gam)(C:ZF)(o:Oper):Option<|FN×List OT×List AP:=
 match o.op with
 |.call {callee:=.value<|.func f,args,argTypes}=>(c.sig f).map λd=>(.id f,d,Vx args.toList argTypes.toList)
 | .call {callee:=.value<|.tmp t,args,argTypes}=>match Yr g C (.tmp t)with
   |.cq f a=>(c.sig f).map λd=>(.id f,d,Vx args.toList argTypes.toList++a.map .cap)
   |.val e _=>(c.sig<|1000000+argTypes.toList.headD 0).map λd=>(.e e,d,Vx args.toList argTypes.toList)
   |_=>U
 |_=>U
def Z3A(g:Gam)(o:Oper):Bool:=match o.dst with|some d=>Z7O g d|none=>xk
def Z3z(g:Gam)(o:Oper):Bool:=match o.dst with|some d=> !(g.at d).2.bj|none=>xk
def Gt(o:Oper)(ps:List Nat):Bool:=match o.dst with|some d=>ps.contains d|none=>xk
def Gs(c:Ctx)(o:Oper):Bool:=match o.dst with|some d=> !decide (d<c.n)|none=>xw
def Z6N(c:Ctx)(g:Gam)(C:ZF)(o:Oper)(x:Operand):Bool:=match o.dst,Yr g C x with
 |some d,.own .. =>c.kp.contains d
 |_,_=>xw
def D0(c:Ctx)(g:Gam)(C:ZF)(o:Oper):PK:=
 match o.op with
 |.pick x a b=>D1 c g C x a b
 |.assign _=>if Z3A g o then U else pk c g C o
 |.move x=>if Z3z g o then U else if Z6N c g C o x then(YE g C x).map λb=>(.val b.1 b.2,[b.1])else pk c g C o
 |_=>pk c g C o
def DQ(c:Ctx)(a:List Nat)(g:Gam)(C:ZF)(d:Nat)(k:TK)(es:List E):Option OS:=
 if a.contains d then
  match k with
  |.val e []=>if !(g.at d).2.bj then U else J {d:=[(d,C,.val (.s<|c.ix d) [])],ps:=[d],rb:=[d],fz:=[],efs:=[.lt (c.ix d) (ZI c C) e],chks:=es.map λe=>(ZI c C,e)}
  |_=>U
 else if UT d k||leads d k then U else J {d:=[(d,C,k)],ps:=[d],rb:=[d],fz:=[],efs:=[],chks:=es.map λe=>(ZI c C,e)}
def DP(g all:Gam)(m:MS):OS:= {d:=m.d++Wl m.ps m.rb m.fz all++Ui m.fz g,ps:=m.ps,rb:=m.rb,fz:=m.fz,efs:=[],chks:=m.es.map λe=>([],e)}
def QQ(c:Ctx)(a:List Nat)(ops:Array Oper)(all:Gam)(o:Oper):Option OS:=
 let g:=only all (Tg ops all o)
 if Gs c o then U else
 (zY c ops g o).bind λC=>
 match Al c g C o,o.dst with
 |some (fn,l,h),J d=>DN c g all C d fn l h
 |some _,U=>U
 |none,_=>
 match Am g C o,o.dst with
 |some (f,n,args,q),J d=>DM c g C o.type d f n args q
 |some _,U=>U
 |none,_=>match D0 c g C o,o.dst with
  |some (k,j),J d=>DQ c a g C d k j
  |_,_=>if o.guard.isSome then U else(mk c g o).bind λm=>if m.ps.all (λp=>(ZT m.d).contains p)&&m.rb.all (λp=>m.ps.contains p)&&Gt o m.ps then J (DP g all m)else U
def Z7I(ops:Array Oper):List Nat:=
 ops.toList.filterMap λo=>match o.op,o.dst with
  |.assign (.tmp t),J _=>J t
  |.store _ _ (.tmp t),_=>J t
  |.call {callee:=.builtin .append,args, .. },_=>match args.toList with|.tmp t::_=>J t|_=>U
  |_,_=>U
def MV(ops:Array Oper):List Nat:=
 let l:=Z7I ops
 l++ops.toList.flatMap λo=>match o.op,o.dst with
  |.build _ parts,J d=>if l.contains d then parts.toList.filterMap λx=>match x.2 with|.tmp t=>J t|_=>U else []
  |_,_=>[]
def yW(ops:Array Oper):List Nat:=
 ops.toList.filterMap λo=>match o.guard with
  |some (j,_)=>(ops[j]?).bind (·.dst)
  |none=>U
structure XS where
 os:OS
 R:List Nat
 T:List Nat
 deriving Inhabited
def Ft(xs:List XS)(e:Nat):List Nat:=match xs[e]? with|some x=>x.T|none=>[]
def Ue(o:Oper):List Nat:=(o.after.toList.filter λe=>Region.binds .any e).map (·.on)
def Kd(a:Bool)(xs:List XS)(o:Oper):List Nat:=
 if a then(List.range<|I xs).filter λj=>(Ue o).any λe=>e==j||(Ft xs e).contains j
 else List.range<|I xs
def zi(c:Ctx)(a:Bool)(f:List Nat)(ops:Array Oper):List Oper->Gam->List XS->Option (Gam×List XS)
 | [],g,h=>J (g,h)
 |o::l,g,h=>if a&& !(Ue o).all (λe=>decide (e<I h))then U else(QQ c f ops g o).bind λos=>zi c a f ops l (os.d++g)<|h++[{os,R:=Tg ops g o,T:=Kd a h o}]
def LI(a:OS)(g:Gam):Bool:=g.all λx=>(ZT a.d).contains x.1||VB a.ps a.rb a.fz x.2.2
def Aa(a b:List Nat):Bool:=a.all λt=> !b.contains t
def qA(x:XS)(i:Nat)(y:XS)(j:Nat):Bool:=
 j==i||((y.T.contains i||LI x.os y.os.d)&&(x.T.contains j||y.T.contains i||(Aa (ZT y.os.d) (ZT x.os.d)&&Aa (ZT y.os.d) x.R)))
def Cf(g0:Gam)(xs:List XS):Bool:=
 xs.zipIdx.all λx=>(x.1.os.ps.all λp=>(ZT x.1.os.d).contains p)&&(x.1.os.fz.all λp=>(ZT x.1.os.d).contains p)&&LI x.1.os g0&&
  (x.1.T.all λj=>j<x.2)&&xs.zipIdx.all λy=>qA x.1 x.2 y.1 y.2
abbrev SS:=List<|Nat×OT
def J9(c:Ctx)(t:Nat):OT->TK
 |.fz=>.val (.s<|c.ix t) []
 |.own d=>.own d<|.s<|c.ix t
 |.nil=>.nil
 |.mem l=>.mem (l.zipIdx.map λx=>(x.1,.m (c.ix t) x.2))
 |.cq f a=>.cq f a
def Yt(c:Ctx)(S:SS):Gam:=S.map λx=>(x.1,[],J9 c x.1 x.2)
def V2:TK->Option OT
 |.val _ _=>J .fz
 |.own g _=>J<|.own g
 |.nil=>J .nil
 |.mem d=>J (.mem (d.map (·.1)))
 |.cq f a=>J<|.cq f a
 |_=>U
def VE(keep:List Nat)(g:Gam):List Nat:=keep.flatMap λt=>match g.at t with
 |([],.val _ a)=>a
 |_=>[]
def Uo:TK->OV
 |.val e _=>.v e
 |.own _ e=>.v e
 |.nil=>.v<|.c<|.sl []
 |.mem a=>.m (a.map (·.2))
 |_=>.no
def SJ(i:Nat):OV->Bool
 |.v (.s j)=>i==j
 |.m l=>(l.zipIdx.all λx=>match x.1 with|.m j k=>i==j&&k==x.2|_=>xw)
 |_=>xw
def Rp(keep:List Nat)(g:Gam):SS:=keep.filterMap λt=>if(g.at t).1.isEmpty then(V2 (g.at t).2).map λk=>(t,k)else U
def SS.at(S:SS)(t:Nat):Option OT:=
 match S with
 | []=>U
 |(u,x)::r=>if u=t then J x else SS.at r t
def TW(c:Ctx)(S:SS)(g:Gam)(t:Nat):Option<|Nat×OV:=
 let o:=if(g.at t).1.isEmpty then Uo (g.at t).2 else .no
 if SJ (c.ix t) o then U
 else match S.at t,(g.at t).2 with
  |some .nil,.nil=>U
  |none,.no=>U
  |_,_=>J (c.ix t,o)
def MQ(c:Ctx)(S:SS)(keep:List Nat)(g:Gam):List<|Nat×OV:=keep.filterMap<|TW c S g
def Gv:EF->List (ZF×E)
 |.lt _ C e=>[(C,e)]
 |.call _ C f _ _ aq_=>(f.es++aq_).map λe=>(C,e)
 |.co _ C f _ aq_=>(f.es++aq_).map λe=>(C,e)
def qG:OV->List E
 |.v e=>[e]
 |.m l=>l
 |.no=>[]
def Gn(l:List<|ZF×E)(x:ZF×E):Bool:=l.any λy=>Q6 y.1 x.1&&E.ax x.2 y.2
def qV:List (ZF×E)->List (ZF×E)->List (ZF×E)
 |_,[]=>[]
 |l,x::r=>let q:=qV l r;if Gn (l++q) x then q else x::q
def TG:EF->Nat
 |.lt i _ _=>i
 |.call i _ _ _ _ _=>i
 |.co i _ _ _ _=>i
mutual
def E.asks(t:Nat):E->Bool
 |.s u=>t==u
 |.m u _=>t==u
 |.mm u _ _=>t==u
 |.bo _ a b|.fj _ a b|.mn a b|.mx a b=>E.asks t a||E.asks t b
 |.az a b _|.ai a b _ _ _|.fg a b _|.app a b _=>E.asks t a||E.asks t b
 |.lk _ a b _ _=>E.asks t a||E.asks t b
 |.dg _ a b d=>E.asks t a||E.asks t b||E.asks t d
 |.dz a|.fe a=>E.asks t a
 |.un _ a|.conv _ a|.len a|.ext a _|.ae a _|.bb a _ _|.mk _ a|.aq a|.bm a|.one a|.sz a _|.fl a|.iy a=>E.asks t a
 |.gz a b d _|.upd a b _ d|.df a b _ _ d|.ite a b d=>E.asks t a||E.asks t b||E.asks t d
 |.lit l|.ag l|.pt _ l=>E.bq t l
 |.c _=>xw
def E.bq(t:Nat):List E->Bool
 | []=>xw
 |a::l=>E.asks t a||E.bq t l
end
def XH(t:Nat):EF->Bool
 |.lt _ C e=>C.any (λx=>x.1==t)||E.asks t e
 |.call _ C f _ _ aq_=>C.any (λx=>x.1==t)||E.bq t (f.es++aq_)
 |.co _ C f _ aq_=>C.any (λx=>x.1==t)||E.bq t (f.es++aq_)
def qy:List EF->Bool
 | []=>xk
 |x::l=> !XH (TG x) x&&l.all (λy=>TG y !=TG x&& !XH (TG y) x)&&qy l
def Z3V(fix:List Nat)(ops:Array Oper):Bool:=ops.toList.all λo=>match o.dst with
 |some d=> !fix.contains d
 |none=>xk
def Av(P:Program)(ix:Nat->Nat)(fresh:FuncId->Bool)(sig:FuncId->Option (List OT))(tr fix:List Nat)(n:Nat)(keep:List Nat)(d:Bool)(ops:Array Oper)(S:SS):Option<|Reg×SS:=
 let f:=MV ops;let c:Ctx:= {P,ix,own:=λt=>f.contains t,fresh,sig,tr,n,kp:=keep};let g0:=Yt c S
 (zi c d (yW ops) ops ops.toList g0 []).bind λr=>
  let h:=VE keep r.1;let g:=frz h r.1;let outs:=MQ c S keep g;let efs:=r.2.flatMap λx=>x.os.efs;let chks:=r.2.flatMap λx=>x.os.chks;let a:=(efs.flatMap Gv)++(outs.flatMap λx=>(qG x.2).map λe=>(([]:ZF),e))
  if Z3V fix ops&&Cf g0 r.2&&qy efs&&(efs.all λx=>S.all λy=>c.ix y.1 !=TG x)then
   J ({efs,chks:=qV a chks,outs},Rp keep g)
  else U
end Vm
namespace Vm
open Go
inductive Stm where
 |ao (r:Reg)
 |skip
 |seq (a b:Stm)
 |cond (c:E) (a b:Stm)
 |block (id:Nat) (a:Stm)
 |loop (keep:List Nat) (a:Stm)
 |exit (id:Nat)
 |ret
 deriving Inhabited
def De(ops:Array Oper):List Oper->List Nat->List Nat
 | [],_=>[]
 |o::l,seen=>
  (o.op.operands.toList.filterMap λx=>match x with|.tmp t=>if seen.contains t then U else J t|_=>U)++
  De ops l (match o.dst with|some d=>d::seen|none=>seen)
def MU(ops:Array Oper):List Nat:=
 ops.toList.filterMap λo=>match o.dst,o.op with
  |some d,.assign _|some d,.alloc _|some d,.box _ _=>J d
  |_,_=>U
def IK(ops:Array Oper):List Nat:=
 ops.toList.filterMap λo=>match o.dst,o.op with
  |some d,.call {callee:=.value _, .. }=>J d
  |some d,_=>if(yW ops).contains d then J d else U
  |none,_=>U
def T6(f:Array Oper->List Nat):Code->List Nat
 |.region _ d _=>f d
 |.seq a b=>T6 f a++T6 f b
 |.cond (.tmp t) a b=>t::T6 f a++T6 f b
 |.cond _ a b=>T6 f a++T6 f b
 |.block _ a|.loop a|.scope a=>T6 f a
 |_=>[]
def KG:List Nat->List Nat->List Nat
 |a,[]=>a.reverse
 |a,t::l=>KG (if a.contains t then a else t::a) l
def pos:List Nat->Nat->Nat
 | [],_=>0
 |u::l,t=>if u=t then 0 else pos l t+1
def TQ(P:Program):OT->OT->Bool
 |.own a,.own b=>a==b
 |.nil,.own a=>decide (0<P.cellsOf a)
 |.nil,.nil|.nil,.fz|.fz,.fz|.own _,.fz=>xk
 |.mem a,.mem b=>Jt P a b
 |.cq f a,.cq g b=>f==g&&a==b
 |_,_=>xw
def Sm(P:Program)(S R:SS):Bool:=R.all λx=>match S.at x.1 with|some k=>TQ P k x.2|none=>xw
def Qp(P:Program)(S:Option SS)(R:Option SS):Bool:=match S,R with|none,_=>xk|some S,J R=>Sm P S R|some _,U=>xw
def Z6s(P:Program):CK->CK->CK
 |a,b=>if Sl P a b then b else if Sl P b a then a else match a,b with|.gc,_|_,.gc=>.gc|_,_=>.fz
def Z6t(P:Program):OT->OT->Option OT
 |.mem a,.mem b=>if I a=(I b) then J (.mem<|(a.zip b).map λx=>Z6s P x.1 x.2)else U
 |.mem _,_|_,.mem _=>U
 |a,b=>if TQ P a b then J b else if TQ P b a then J a else J .fz
def M4(P:Program)(S R:SS):SS:=S.filterMap λx=>(R.at x.1).bind λk=>(Z6t P x.2 k).map λk=>(x.1,k)
def qd(P:Program):Option SS->Option SS->Option SS
 |none,b=>b
 |a,U=>a
 |some a,J b=>J<|M4 P a b
def BU(P:Program):List SS->Option SS
 | []=>U
 |S::l=>qd P (J S)<|BU P l
structure Flow where
 n:Option SS
 x:List<|Nat×SS
 r:List SS
structure FC where
 P:Program
 ix:Nat->Nat
 fresh:FuncId->Bool
 sig:FuncId->Option (List OT)
 tr:List Nat
 fix:List Nat
 n:Nat
 keep:List Nat
def Z4b(S:SS):SS:=S.map λx=>(x.1,match x.2 with|.mem l=>.mem (l.map λk=>match k with|.own _=>.fz|k=>k)|k=>k)
def B8(P:Program)(f:SS->Option (Stm×Flow)):Nat->SS->Option SS
 |0,S=>J S
 |k+1,S=>match f S with
  |none=>B8 P f k<|Z4b S
  |some x=>match x.2.n with
  |none=>J S
  |some R=>if Sm P R S then J S else B8 P f k<|M4 P S R
def comp(c:FC):Code->SS->Option (Stm×Flow)
 |.skip,S|.label _,S=>J (.skip,⟨J S,[],[]⟩)
 |.region _ f d,S=>(Av c.P c.ix c.fresh c.sig c.tr c.fix c.n c.keep d f S).map λx=>(.ao x.1,⟨J x.2,[],[]⟩)
 | .seq a b,S=>(comp c a S).bind λx=>match x.2.n with
   |none=>J x
   |some R=>(comp c b R).map λy=>(.seq x.1 y.1,⟨y.2.n,x.2.x++y.2.x,x.2.r++y.2.r⟩)
 | .cond (.tmp t) a b,S=>if S.at t=J .fz then(comp c a S).bind λx=>(comp c b S).bind λy=>
   let M:=qd c.P x.2.n y.2.n
   if Qp c.P x.2.n M&&Qp c.P y.2.n M then J (.cond (.s<|c.ix t) x.1 y.1,⟨M,x.2.x++y.2.x,x.2.r++y.2.r⟩)else U else U
 | .block id a,S=>(comp c a S).bind λx=>
   let M:=qd c.P x.2.n (BU c.P ((x.2.x.filter λy=>y.1==id).map (·.2)))
   if Qp c.P x.2.n M&&x.2.x.all (λy=>y.1 !=id||Qp c.P (J y.2) M)then
    J (.block id x.1,⟨M,x.2.x.filter λy=>y.1 !=id,x.2.r⟩)else U
 | .loop a,S=>(B8 c.P (comp c a) 4 S).bind λH=>(comp c a H).bind λx=>
   if Sm c.P S H&&Qp c.P x.2.n (J H)then J (.loop (H.map λy=>c.ix y.1) x.1,⟨U,x.2.x,x.2.r⟩)else U
 |.exit id,S=>J (.exit id,⟨U,[(id,S)],[]⟩)
 |.scope a,S=>comp c a S
 |.ret,S=>J (.ret,⟨U,[],[S]⟩)
 |_,_=>U
inductive RK where
 |v|ag (n:Nat)|one
 deriving Inhabited
structure Fn where
 n:Nat
 keep:List Nat
 body:Stm
 ei:List<|Nat×RK
 deriving Inhabited
def LP(P:Program)(d:Nat->Nat)(f:Func):List<|Nat×RK:=
 f.results.toList.map λr=>match r with|.tmp t=>(d t,.v)|.cell a t=>(d a,if Y9 P t then .ag (P.cellsOf t)else .one)
def Rn(P:Program)(S:SS):ResultVar->Bool
 |.tmp t=>match S.at t with|some (.mem _)|some (.cq _ _)|none=>xw|_=>xk
 |.cell t a=>match S.at t with|some (.mem l)=>X5 P a&&l.all (λk=>k !=.gc)&&(if Y9 P a then I l==P.cellsOf a else decide (0<I l))|_=>xw
def Rr(ks:List OT):SS:=ks.zipIdx.filterMap λx=>match x.1 with
 |.fz=>U
 |k=>J (x.2,k)
def Rz:ResultVar->Nat
 |.tmp t=>t
 |.cell t _=>t
def Rm(P:Program)(f:Func)(fin:SS)(S:SS):Bool:=f.results.toList.all (Rn P S)&&Sm P S fin
def OL(f:Func)(fin:SS):Bool:=f.results.toList.all λr=>(fin.at<|Rz r).isNone
def Z7m(P:Program)(f:Func)(fin:SS):Option SS->Bool
 |some R=>Rm P f fin R
 |none=>xk
def MC(P:Program)(a:Nat->Nat)(f:Func)(ks:List OT)(fin:SS)(fl:Flow):Bool:=
 Z7m P f fin fl.n&&fl.r.all (Rm P f fin)&&fl.x.isEmpty&&(List.range<|I ks).all (λt=>a t==t)
def Qc(ks:List OT):List Nat:=(Rr ks).map (·.1)
def zl(f:Func):List Nat:=f.results.toList.filterMap λr=>match r with
 |.tmp t=>J t
 |_=>U
def WW(P:Program)(fresh:FuncId->Bool)(sig:FuncId->Option (List OT))(ks:List OT)(fin:SS)(f:Func):Option Fn:=
 f.body.bind λcode=>
  let keep:=KG []<|(List.range<|I ks)++T6 (λa=>MU a++De a a.toList []) code;let ix:=pos<|keep++KG [] ((T6 IK code).filter λt=> !keep.contains t);let S:=ks.zipIdx.map λx=>(x.2,x.1)
  (comp {P,ix,fresh,sig,tr:=zl f,fix:=Qc ks,n:=f.ntmps,keep} code S).bind λx=>
   if MC P ix f ks fin x.2 then
    J {n:=I keep,keep,body:=x.1,ei:=LP P ix f}
   else U
end Vm
namespace Vm
open Go
structure GH where
 F:Nat->Prop
 bl:Nat->Nat->Option Nat
 K:Nat->Prop
structure Ok (B:Nat) (G:Nat->Prop) (w:World) (h:GH):Prop where
 base:B<=xz (xj w)
 bn:∀b,h.F b->b<xz (xj w)
 cr:∀b,h.F b->G b\/B<=b
 fh:∀b,G b->h.F b
 an:∀t i b,h.bl t i=J b->B<=b/\b<xz (xj w)/\¬h.F b
 inj:∀t i u j b,h.bl t i=J b->h.bl u j=J b->t=u/\i=j
 cp:∀b,h.K b->b<xz (xj w)
 cj:∀t i b,h.bl t i=J b->¬h.K b
 fi:∀b,h.F b->G b\/¬h.K b
def GH.fk(h:GH)(big:Bool)(sh:List Nat)(b:Nat):Prop:=h.F b\/∃p∈sh,∃i,(big=xk\/0<i)/\h.bl p i=J b
def GH.ext(h:GH)(sh:List Nat)(b:Nat):Prop:=h.F b\/∃p∈sh,∃i,h.bl p (i+1)=J b
def GH.bp{h:GH}{sh b}(a:h.F b):h.ext sh b:=.inl a
def GH.io{h:GH}{b}(a:h.ext [] b):h.F b:=by
 obtain a|⟨p,d,_⟩:=a;exact a;grind
def GH.kf{h:GH}{sh r b}(a:h.ext sh b):h.ext (sh++r) b:=by
 obtain a|⟨p,d,x⟩:=a;exact .inl a;exact .inr ⟨p,by simp[d],x⟩
def GH.ip{h:GH}{sh r b}(a:h.ext r b):h.ext (sh++r) b:=by
 obtain a|⟨p,d,x⟩:=a;exact .inl a;exact .inr ⟨p,by simp[d],x⟩
def Z1c(P:Program)(B:Nat)(w:World)(h:GH)(o:Option Nat)(ty:TypeId)(x:V)(v:Value):Prop:=
 ∃l a,x=.sl l/\0<P.cellsOf ty/\(∀y∈l,y.au<|P.cellsOf ty)/\w.ownsRow B ty (P.cellsOf ty) v (I l) a/\v.ownBlock=o/\
  ∀(i:Nat) c,(flat l)[i]?=J c->∃u,a[i]?=J u/\Rd w h.F c u
def Z1d(B:Nat)(w:World)(h:GH)(o:Option Nat)(x:V)(v:Value):Prop:=
 ∃id f g b a d,x=.mp id f g/\v=.map (J b)/\o=J b/\B<=b/\(id=0\/id=b+1)/\w.heap[b]?=J (.map a d)/\I f=a.size/\I g=a.size/\
  (∀i c,f[i]?=J c->Rd w h.F c (a.getD i default).key)/\∀i c,g[i]?=J c->Rd w h.F c (a.getD i default).val
def OwnV(P:Program)(B:Nat)(w:World)(h:GH)(o:Option Nat)(ty:TypeId)(x:V)(v:Value):Prop:=Z1c P B w h o ty x v\/Z1d B w h o x v
def Ru:Option Nat->Nat
 |none=>1
 |some i=>i+1
def RelC(P:Program)(B:Nat)(s:St)(w:World)(h:GH)(o:Option Nat)(k:CK)(e:E)(v:Value):Prop:=
 match k with
 |.fz=>∃x,eval s e=J x/\x.one=xk/\Rd w h.F x v
 |.own a=>∃x,eval s e=J x/\OwnV P B w h o a x v
 |.nil=>v=.slice U 0 0/\eval s e=J (.sl [])
 |.gc=>v.oneCell'=xk
def RelCs(P:Program)(B:Nat)(s:St)(w:World)(h:GH)(t:Nat)(cs:List<|CK×E)(vs:Array Value):Prop:=
 vs.size=I cs/\∀i c,cs[i]?=J c->RelC P B s w h (h.bl t<|i+1) c.1 c.2 (vs.getD i xy)
def RelK(P:Program)(B:Nat)(s:St)(w:World)(h:GH)(r:Nat->Option Value)(t:Nat)(v:Value):TK->Prop
 |.no=>True
 |.val e d=>∃x,eval s e=J x/\Rd w (h.ext d) x v
 |.own u e=>∃x,eval s e=J x/\OwnV P B w h (h.bl t 1) u x v
 |.nil=>v=.slice U 0 0
 |.mem g=>∃b vs T,h.bl t 0=J b/\v=.pointer (J ⟨b,0,U⟩)/\w.heap[b]?=J (.cells vs T (0,0))/\RelCs P B s w h t g vs
 |.iw g=>∃vs,v=.agg vs/\RelCs P B s w h t g vs
 |.gy p=>r p=J v
 |.fq p i=>∃b,h.bl p 0=J b/\w.cell? ⟨b,i,U⟩=J v
 |.pm p o=>∃b,h.bl p 0=J b/\v=.pointer (J ⟨b,o,U⟩)
 | .pc e o d=>∃x b q,∃vs:Nat->Value,eval s e=J x/\v=.pointer (J ⟨b,q+o,U⟩)/\h.ext d b/\(∀c∈x.pc,c.one=xk)/\
   (∀i,i<I x.pc->w.cell? ⟨b,q+i,U⟩=J (vs i))/\∀i c,x.pc[i]?=J c->Rd w (h.ext d) c (vs i)
 |.pe p i j o k=>∃n q,h.bl p (Ru i)=J n/\(∃l,eval s j=J (.int l (q:Nat)))/\v=.pointer (J ⟨n,q*k+o,U⟩)
 |.pa p o j n k=>∃b q,h.bl p 0=J b/\(∃l,eval s j=J (.int l (q:Nat)))/\q<n/\v=.pointer (J ⟨b,o+q*k,U⟩)
 |.oi e d=>∃x,eval s e=J x/\Rd w (h.fk xk d) x v
 |.cq f a=>∃vs,v=.func (.func f) #[] vs/\vs.size=I a/\∀(i p:Nat),a[i]?=J p->∃b,h.bl p 0=J b/\vs[i]?=J (.pointer<|J ⟨b,0,U⟩)
def holds(s:St)(C:ZF):Prop:=∀x∈C,get s x.1=.v (.bool x.2)
theorem VX s:holds s []:=λ_ h=>ZgY
def B9{s C D}:holds s (C++D)↔holds s C/\holds s D:=by
 unfold holds;constructor;simp_all;grind
def Z4y{s c C D}(h:Q6 C D=xk)(d:holds s<|ZI c D):holds s<|ZI c C:=by
 intro x a;simp only[ZI,ZhC]at a;obtain⟨y,f,rfl⟩:=a;refine d _ ?_;simp only[Q6]at h;simp[ZI];grind
structure RelG (c:Ctx) (B:Nat) (G:Nat->Prop) (s:St) (a:Act) (w:World) (h:GH) (g:Gam):Prop where
 ok:Ok B G w h
 Z:∀t,holds s (ZI c (g.at t).1)->(g.at t).2.bj=xw->∃v,a.tmps[t]?=J v/\RelK c.P B s w h (λp=>a.tmps[p]?) t v (g.at t).2
 skip:∀t,¬holds s (ZI c (g.at t).1)->a.tmps.getD t xy=xy
theorem Act.aj(a:Act)(t:Nat)v(h:a.tmps[t]?=J v):a.eval (.tmp t)=v:=by
 simp_all[Act.eval,Zhn,ZhP]
def IX{g C t k}(h:look g C t=k)(a:k.bj=xw):(g.at t).2=k/\Q6 (g.at t).1 C=xk:=by
 grind [look,TK.bj]
section
variable {c:Ctx}{B:Nat}{G:Nat->Prop}{s:St}{a:Act}{w:World}{h:GH}{g:Gam}{C:ZF}
theorem RelG.look(o:RelG c B G s a w h g)(j:holds s<|ZI c C){t k}(n:look g C t=k)(l:k.bj=xw):
  ∃v,a.tmps[t]?=J v/\RelK c.P B s w h (λp=>a.tmps[p]?) t v k/\(g.at t).2=k:=by
 let⟨q,f⟩:=IX n l;let⟨v,r,d⟩:=o.Z t (Z4y f j) Zgm;simp_all
theorem zV{v x}(a:Vi v=J x)w G:Rd w G x v:=by
 unfold Vi at a;split at a<;>first
  |(simp at a;subst a;first|exact .int _ _|exact .bool _|exact .str _|exact .nil _ _ (Zis _)|exact .lw|exact .ib|exact .ic)
  | (split at a<;>first
    | (rename_i d
       simp at a;subst a;rw[Zip d.1,Zip d.2];exact .fn _)
    |simp at a)
  |simp at a
theorem Ar{v x}(a:Vi v=J x):x.one=xk:=by
 unfold Vi at a;split at a<;>first
  |(simp at a;subst a;rfl)
  |(split at a<;>first|(simp at a;subst a;rfl)|simp at a)
  |simp at a
def OwnV.rd{P o ty x v}(S:OwnV P B w h o ty x v){G'}(n:∀b,h.F b->G' b)(X:∀b,o=J b->G' b):Rd w G' x v:=by
 obtain⟨l,L,rfl,W,g,j,N,y⟩|⟨id,T,L,b,M,k,rfl,rfl,rfl,_,hid,p,q,G,r,H⟩:=S;case inr=>exact .mp id T L b k M hid Zgm p q G (λi c d=>(r i c d).mono n) λi c d=>(H i c d).mono n
 let⟨K,O⟩:=j;obtain⟨rfl,Q⟩|⟨b,cap,a,rfl,_,p,t,f,z,A⟩:=O;have:=Zj7 Q;subst this;exact .nil _ _ Z0;simp[Value.ownBlock]at N;refine .sl l b 0 cap _ (λi=>a.getD i xy) t f Zgm g (λi d=> ?_) λi c d=> ?_;rw[Zi5,Zhv w b i a ty _ p];have:i<a.size:=by rw[z];exact Zhr d Zgl
 simp_all;let⟨u,C,R⟩:=y i c d;have D:a.getD i xy=u:=by
  rw[<-A,ZhV]at C;split at C;simp_all;simp at C
 rw[D];exact R.mono n
def RelC.cell{P o k e v}(a:RelC P B s w h o k e v):v.oneCell'=xk:=by
 cases k with
 |fz=>let⟨x,_,d,f⟩:=a;rw[f.il,d]
 |own j=>
  obtain⟨x,_,⟨l,n,_,_,_,⟨_,g⟩,_⟩|⟨_,_,_,_,_,_,_,rfl,_⟩⟩:=a;obtain⟨rfl,_⟩|⟨_,_,_,rfl,_⟩:=g<;>rfl;rfl
 |nil=>obtain⟨rfl,_⟩:=a;rfl
 |gc=>exact a
def RelC.rd{P o k e v}(d:RelC P B s w h o k e v)(q:k≠.gc){G'}(f:∀b,h.F b->G' b)(r:∀j,k=.own j->∀b,o=J b->G' b):
  ∃x,eval s e=J x/\x.one=xk/\Rd w G' x v:=by
 cases k with
 |fz=>let⟨x,a,n,p⟩:=d;exact⟨x,a,n,p.mono f⟩
 |own j=>
  let⟨x,a,g⟩:=d;refine⟨x,a,?_,g.rd f Zgm⟩;obtain⟨l,t,rfl,_⟩|⟨_,_,_,_,_,_,rfl,_⟩:=g<;>rfl
 |nil=>obtain⟨rfl,a⟩:=d;exact⟨_,a,rfl,.nil _ _ Z0⟩
 |gc=>simp_all
def T7{l xs}(h:YH s l=J xs):I xs=I l/\∀(i:Nat) e,l[i]?=J e->∃x,xs[i]?=J x/\eval s e=J x:=by
 induction l generalizing xs with
 |nil=>simp[YH,Zhh]at h;subst h;exact⟨rfl,Z1⟩
 |cons e l a=>
  simp[YH,Zhg,Zhk]at h;grind
def GE{l}(h:∀e∈l,∃x,eval s e=J x):∃a,YH s l=J a:=by
 induction l with
 |nil=>exact⟨[],rfl⟩
 |cons e l f=>
  let⟨x,d⟩:=h e Z1;grind [YH]
def Uh{l}(h:∀x∈l,x.one=xk):flat l=l:=by
 induction l with
 |nil=>rfl
 |cons x l f=>
  rw[Qe,f λy d=>h y (by simp[d])];have a:=h x Z1;cases x<;>first|rfl|simp[V.one]at a
def RelCs.rd{P t cs vs}(H:RelCs P B s w h t cs vs)(Q:WA cs=xw){G'}(C:∀b,h.F b->G' b)(S:UY cs=xk->∀i b,h.bl t (i+1)=J b->G' b):
  ∃x,eval s (.ag (cs.map (·.2)))=J (.agg x)/\I x=I cs/\Rd w G' (.agg x) (.agg vs):=by
 let⟨K,D⟩:=H;have key:∀i k e,cs[i]?=J (k,e)->∃x,eval s e=J x/\x.one=xk/\Rd w G' x (vs.getD i xy):=by
  intro i k e a;refine(D i _ a).rd ?_ C ?_;grind [WA,List.any_eq_true];grind [UY,List.any_eq_true]
 let⟨n,p⟩:=GE (s:=s) (l:=cs.map (·.2)) (by
  intro e q;simp only[ZhC]at q;obtain⟨⟨k,O⟩,R,rfl⟩:=q;grind [List.getElem?_of_mem])
 let⟨G,L⟩:=T7 p;have o:I n=I cs:=by simpa using G
 have d:∀i x,n[i]?=J x->x.one=xk/\Rd w G' x (vs.getD i xy):=by
  intro i x a;have f:i<I cs:=by
   have:=(Zhj.1 a).1;omega
  let⟨y,N,u,A⟩:=key i cs[i].1 cs[i].2 (by simp[f]);let⟨z,r,j⟩:=L i (cs[i].2) (by simp[f]);rw[a]at r;cases r;rw[N]at j;cases j;exact⟨u,A⟩
 have g:∀x∈n,x.one=xk:=λx M=>by
  grind [List.getElem?_of_mem]
 refine⟨n,?_,o,.agg n vs Z0 g λi x a=>(d i x a).2⟩;simp_all[eval,S7,Uh]
def L8{P t b vs T cs}(q:h.bl t 0=J b)(u:w.heap[b]?=J (.cells vs T (0,0)))(j:RelCs P B s w h t cs vs)(r:WA cs=xw)
  {z} (a:eval s (.pt U (cs.map (·.2)))=J z) {G'} (p:∀b,h.F b->G' b) (C:∀i b,h.bl t i=J b->G' b):Rd w G' z<|.pointer<|J ⟨b,0,U⟩:=by
 simp[eval,Zhg]at a;let⟨y,l,a⟩:=a;simp only[LD]at a;split at a;rename_i f;simp at a;subst a;have d:=λx g=>Zhw.1 f x g;let⟨x,g,G,k⟩:=j.rd r (G':=G') p Zgl;simp[eval,l,S7,Uh d,V.agg.injEq]at g;subst g;cases k with
 |agg _ _ A n o=>
  refine .ptr y b 0 (λi=>vs.getD i xy) Zgl n (λi D=> ?_) o;rw[Zi5,Zhv w b i vs T _ u];simp_all
 cases a
def RelG.eu(k:RelG c B G s a w h g){p ty e}(j:ownOf g p=J (ty,e)):
  ∃v,a.tmps[p]?=J v/\∃x,eval s e=J x/\OwnV c.P B w h (h.bl p 1) ty x v:=by
 unfold Vm.ownOf at j;split at j;rename_i n o f;obtain⟨rfl,rfl⟩:=j;let⟨v,l,d⟩:=k.Z p (by rw[f];exact VX s) (by rw[f];rfl);rw[f]at d;exact⟨v,l,d⟩;grind
def RelG.db(l:RelG c B G s a w h g){p cs}(j:memOf g p=J cs):
  ∃b vs T,h.bl p 0=J b/\a.tmps[p]?=J (.pointer<|J ⟨b,0,U⟩)/\w.heap[b]?=J (.cells vs T (0,0))/\RelCs c.P B s w h p cs vs:=by
 unfold Vm.memOf at j;split at j;rename_i k f;let⟨v,r,d⟩:=l.Z p (by rw[f];exact VX s) (by rw[f];rfl);rw[f]at d;obtain⟨b,vs,T,n,rfl,o,q⟩:=d;simp_all;grind
def O7:TK->Nat×Nat
 |.gy p=>(p,1)
 |.fq p i=>(p,i+1)
 |_=>(0,0)
def RelG.gh(y:RelG c B G s a w h g){k ty e}(f:ownAt g k=J (ty,e)){t v}(r:RelK c.P B s w h (λp=>a.tmps[p]?) t v k):
  ∃x,eval s e=J x/\OwnV c.P B w h (h.bl (O7 k).1 (O7 k).2) ty x v:=by
 cases k with
 |gy p=>
  let⟨u,H,x,K,D⟩:=y.eu f;have:u=v:=by
   have q:a.tmps[p]?=J v:=r;rw[H]at q;cases q;rfl
  subst this;exact⟨x,K,D⟩
 |fq p i=>
  simp[Vm.ownAt,Zhg]at f;let⟨N,C,f⟩:=f;let⟨b,vs,T,z,_,A,F,o⟩:=y.db C;let⟨M,j,d⟩:=r;rw[z]at j;cases j;rw[Zhv w b i vs T _ A]at d;have l:vs.getD i xy=v:=by simp[d]
  split at f;rename_i L O n;simp at f;obtain⟨rfl,rfl⟩:=f;have:=o i _ n;rw[l]at this;exact this;grind
 |_=>simp[Vm.ownAt]at f
def RelG.place(n:RelG c B G s a w h g){p i ty e}(f:Vm.ownAt g (QD p i)=J (ty,e)):
  ∃v x,RelK c.P B s w h (λp=>a.tmps[p]?) 0 v (QD p i)/\eval s e=J x/\OwnV c.P B w h (h.bl p<|Ru i) ty x v:=by
 obtain _|i:=i;let⟨u,C,x,q,k⟩:=n.eu f;exact⟨u,x,C,q,k⟩;have l:=f;simp[QD,Vm.ownAt,Zhg]at f;let⟨F,A,f⟩:=f;let⟨b,vs,T,r,_,y,o,t⟩:=n.db A;split at f;rename_i D H j;have z:i<vs.size:=by rw[o];exact(Zhj.1 j).1
 have d:RelK c.P B s w h (λp=>a.tmps[p]?) 0 (vs.getD i xy)<|QD p<|J i:=
  ⟨b,r,by rw[Zhv w b i vs T _ y];simp_all⟩
 let⟨x,q,k⟩:=n.gh l d;exact⟨_,x,d,q,k⟩;grind
def FV(L:RelG c B G s a w h g){k t v}(R:a.tmps[t]?=J v)(r:RelK c.P B s w h (λp=>a.tmps[p]?) t v k){e sh}(d:Wj g k t=J (e,sh)):
  ∃x,eval s e=J x/\Rd w (h.ext sh) x v:=by
 cases k with
 |val z A=>simp[Wj,Zhx]at d;obtain⟨rfl,rfl⟩:=d;exact r
 |own M z=>
  simp[Wj,Zhx]at d;obtain⟨rfl,rfl⟩:=d;let⟨x,y,q⟩:=r;exact⟨x,y,q.rd (λb l=>GH.bp l) λb l=>.inr ⟨t,Z1,0,l⟩⟩
 |nil=>
  simp[Wj,Zhx]at d;obtain⟨rfl,rfl⟩:=d;have:=r;subst this;exact⟨.sl [],rfl,.nil _ _ Z0⟩
 |iw H=>
  simp only[Wj]at d;split at d;grind;rename_i Q;obtain⟨vs,rfl,C⟩:=r;let⟨x,y,_,N⟩:=C.rd (G':=h.ext<|if UY H=xk then [t]else []) Zgl (λb l=>GH.bp l) (λq i b l=>by rw[Zht q];exact .inr ⟨t,Z1,i,l⟩);simp_all
 |gy p=>
  simp only[Wj,Zhk]at d;let⟨⟨M,z⟩,D,d⟩:=d;simp at d;obtain⟨rfl,rfl⟩:=d;let⟨u,O,x,y,q⟩:=L.eu D;have:u=v:=by
   have K:a.tmps[p]?=J v:=r;rw[O]at K;cases K;rfl
  subst this;exact⟨x,y,q.rd (λb l=>GH.bp l) λb l=>.inr ⟨p,Z1,0,l⟩⟩
 |fq p i=>
  simp only[Wj,Zhk]at d;let⟨⟨M,z⟩,D,d⟩:=d;simp at d;obtain⟨rfl,rfl⟩:=d;let⟨x,y,q⟩:=L.gh D (show RelK c.P B s w h (λp=>a.tmps[p]?) t v _ from r);exact⟨x,y,q.rd (λb l=>GH.bp l) λb l=>.inr ⟨p,Z1,i,l⟩⟩
 |no=>simp[Wj]at d
 |mem H=>simp[Wj]at d
 |pm p o=>simp[Wj]at d
 |pc z o A=>simp[Wj]at d
 |pe p i j o k=>simp[Wj]at d
 |pa p o j n k=>simp[Wj]at d
 |cq f F=>simp[Wj]at d
 |oi z A=>simp[Wj]at d
end
end Vm
namespace Vm
open Go
open Go.RowKit (Below)
def TK.im:TK->Bool
 |.own .. |.mem _|.iw _=>xk
 |_=>xw
structure Step (B:Nat) (ps rb fz:List Nat) (w w':World) (h h':GH):Prop where
 below:Below B w w'
 same:∀b,b<xz (xj w)->(∀p∈ps,∀i,h.bl p i≠J b)->w'.heap[b]?=w.heap[b]?
 F:∀b,h.F b->h'.F b
 bl:∀t,t∉ps->t∉fz->h'.bl t=h.bl t
 nw:∀t,t∉rb->h'.bl t 0=h.bl t 0
 ry:∀t i b,t∉ps->t∈fz->h.bl t (i+1)=J b->h'.F b
 K:h'.K=h.K
section
variable {P:Program}{B:Nat}{G:Nat->Prop}{s:St}{w w':World}{h h':GH}{ps rb fz:List Nat}
def Step.ij(g:Step B ps rb fz w w' h h')(a:Ok B G w h){b}(d:h.F b):=
 g.same b (a.bn b d) λp _ i f=>(a.an p i b f).2.2 d
def Step.cn(g:Step B ps rb fz w w' h h')(a:Ok B G w h){t i b}(k:t∉ps)(d:h.bl t i=J b):=
 g.same b (a.an t i b d).2.1 λp l j f=>k (by have:=(a.inj t i p j b d f).1;simp_all)
def Step.gu(f:Step B ps rb fz w w' h h')(a:Ok B G w h){sh}(j:∀p∈ps,p∉sh):Same (h.ext sh) w w':=by
 intro b d;obtain d|⟨p,k,i,g⟩:=d;exact f.ij a d;exact f.cn a Zgl g
def Step.gt(g:Step B ps rb fz w w' h h'){sh}(j:∀p∈ps,p∉sh):∀b,h.ext sh b->h'.ext sh b:=by
 intro b f;obtain f|⟨p,l,i,k⟩:=f;exact .inl<|g.F b f;have a:=λa=>j p a l;by_cases d:p∈fz;exact .inl<|g.ry p i b a d k;exact .inr ⟨p,l,i,by rw[g.bl p a d];exact k⟩
def Step.nu(f:Step B ps rb fz w w' h h')(a:Ok B G w h){big sh}(j:∀p∈ps,p∉sh):Same (h.fk big sh) w w':=by
 intro b d;obtain d|⟨p,k,i,_,g⟩:=d;exact f.ij a d;exact f.cn a Zgl g
def Step.dk(g:Step B ps rb fz w w' h h')(n:∀t∈rb,t∈ps){big sh}(o:∀p∈ps,p∉sh):∀b,h.fk big sh b->h'.fk big sh b:=by
 intro b j;obtain j|⟨p,l,i,f,k⟩:=j;exact .inl<|g.F b j;have a:=λa=>o p a l;by_cases d:p∈fz;cases i with
 |zero=>exact .inr ⟨p,l,0,f,by rw[g.nw p λq=>a<|n p q];exact k⟩
 |succ i=>exact .inl<|g.ry p i b a d k
 exact .inr ⟨p,l,i,f,by rw[g.bl p a d];exact k⟩
def Z7P{e k v n xs}(d:w.ownsRow B e k v n xs)(l:∀b,v.ownBlock=J b->w'.heap[b]?=w.heap[b]?):w'.ownsRow B e k v n xs:=by
 refine⟨d.1,?_⟩;obtain o|⟨g,cap,a,rfl,f,h,j⟩:=d.2;grind;exact .inr ⟨g,cap,a,rfl,f,by rw[l g rfl];exact h,j⟩
def OwnV.keep{o ty x v}(D:OwnV P B w h o ty x v)(q:Same h.F w w')(a:∀b,h.F b->h'.F b)(z:∀b,o=J b->w'.heap[b]?=w.heap[b]?):OwnV P B w' h' o ty x v:=by
 obtain⟨l,r,rfl,g,j,k,n,p⟩|⟨id,G,r,b,t,f,rfl,rfl,rfl,g,hid,j,k,n,p,y⟩:=D;case inr=>exact .inr ⟨id,G,r,b,t,f,rfl,rfl,rfl,g,hid,by rw[z b rfl];exact j,k,n,λi c d=>(p i c d).keep q a,λi c d=>(y i c d).keep q a⟩
 refine .inl ⟨l,r,rfl,g,j,Z7P k Zgm,n,λi c d=> ?_⟩;let⟨u,C,A⟩:=p i c d;exact⟨u,C,A.keep q a⟩
def RelC.keep{o k e v}(d:RelC P B s w h o k e v)(j:Same h.F w w')(a:∀b,h.F b->h'.F b)(n:∀b,o=J b->w'.heap[b]?=w.heap[b]?):RelC P B s w' h' o k e v:=by
 cases k with
 |fz=>let⟨x,f,g,l⟩:=d;exact⟨x,f,g,l.keep j a⟩
 |own p=>let⟨x,f,g⟩:=d;exact⟨x,f,g.keep j a n⟩
 |nil=>exact d
 |gc=>exact d
def RelCs.keep{t cs vs}(f:RelCs P B s w h t cs vs)(j:Same h.F w w')(a:∀b,h.F b->h'.F b)(d:∀i,h'.bl t (i+1)=h.bl t (i+1))(n:∀i b,h.bl t (i+1)=J b->w'.heap[b]?=w.heap[b]?):RelCs P B s w' h' t cs vs:=
 ⟨f.1,λi g l=>by rw[d];exact(f.2 i g l).keep j a λb k=>n _ b k⟩
def Z38{k}(hc:VB ps rb fz k=xk):(∀p∈ps,UT p k=xw)/\(∀p∈rb,leads p k=xw)/\Jp fz k=xw:=by
 simp_all[VB,Zhl,Zkq,Zkz]
def RelK.keep{tm X t v k}(A:RelK P B s w h tm t v k)(g:Step B ps rb fz w w' h h')(r:Ok B G w h)(W:∀t∈rb,t∈ps)
  (L:t∉ps) (C:t∈fz->k.im=xw) (O:VB ps rb fz k=xk) (a1:∀p,p∉ps->X p=tm p):RelK P B s w' h' X t v k:=by
 let⟨D,Q,y⟩:=Z38 O;have Z:Same h.F w w':=λb N=>g.ij r N;cases k with
 |no=>trivial
 |val e sh=>
  let⟨x,M,l⟩:=A;have u:=λp d y=>Zh4;exact⟨x,M,l.keep (g.gu r u)<|g.gt u⟩
 |oi e sh=>
  let⟨x,M,l⟩:=A;have u:=λp d y=>Zh4;exact⟨x,M,l.keep (g.nu r u)<|g.dk W u⟩
 |own ty e=>
  let⟨x,M,l⟩:=A;refine⟨x,M,?_⟩;rw[g.bl t L (λR=>by cases C R)];exact l.keep Z g.F λb N=>g.cn r L N
 |nil=>exact A
 |mem cs=>
  let⟨b,vs,T,l,z,H,K⟩:=A;have C:t∉fz:=λR=>by cases C R
  exact⟨b,vs,T,by rw[g.bl t L C];exact l,z,by rw[g.cn r L l];exact H,K.keep Z g.F (λi=>by rw[g.bl t L C]) λi b N=>g.cn r L N⟩
 |iw cs=>
  let⟨vs,z,K⟩:=A;exact⟨vs,z,K.keep Z g.F (λi=>by rw[g.bl t L (λR=>by cases C R)]) λi b N=>g.cn r L N⟩
 |gy p=>
  exact(a1 p (λd=>by have:=D p d;simp[UT]at this)).trans A
 |fq p i=>
  have d:p∉ps:=λd=>by have:=D p d;simp[UT]at this
  let⟨b,l,z⟩:=A;exact⟨b,by rw[g.nw p (λhr=>d<|W p hr)];exact l,by rw[Zie (w:=w) (a:=⟨b,i,U⟩)<|g.cn r d l];exact z⟩
 |pm p o=>
  let⟨b,l,z⟩:=A;exact⟨b,by rw[g.nw p (λd=>by have:=Q p d;simp[leads]at this)];exact l,z⟩
 |pc e o sh=>
  let⟨x,b,q,vs,M,l,z,H,K,Y⟩:=A;have u:=λp d y=>Zh4;exact⟨x,b,q,vs,M,l,g.gt u b z,H,λi S=>by rw[(g.gu r u).cell z];exact K i S,λi ck S=>(Y i ck S).keep (g.gu r u)<|g.gt u⟩
 |pe p i j o k=>
  have d:p∉ps:=λd=>by have:=D p d;simp[UT]at this
  have a0:=λd=>by simp[Jp]at y;exact y d
  let⟨n,q,l,z,H⟩:=A;exact⟨n,q,by rw[g.bl p d a0];exact l,z,H⟩
 |pa p o j n k=>
  have d:p∉rb:=λd=>by have:=Q p d;simp[leads]at this
  let⟨b,q,l,z,H,K⟩:=A;exact⟨b,q,by rw[g.nw p d];exact l,z,H,K⟩
 |cq f a2=>
  let⟨vs,l,z,H⟩:=A;refine⟨vs,l,z,λi p S=> ?_⟩;let⟨b,K,Y⟩:=H i p S;have d:=λd=>by have:=Q p d;simp[leads]at this;exact this Zgl
  exact⟨b,by rw[g.nw p d];exact K,Y⟩
end
def PRes(c:Ctx)(B:Nat)(G:Nat->Prop)(s:St)(w:World)(h:GH)(a:Nat->Option Value)(d:Nat)(k:TK)(v:Value)(w':World):Prop:=
 ∃h',Step B [d] [d] [] w w' h h'/\Ok B G w' h'/\RelK c.P B s w' h' a d v k
section
variable {c:Ctx}{B:Nat}{G:Nat->Prop}{s:St}{a:Act}{w:World}{h:GH}{g:Gam}{C:ZF}
def Step.refl ps rb w h:Step B ps rb [] w w h h:=⟨ZhH _ _,Z1,Z1,Z1,Z1,Z1,rfl⟩
theorem PRes.aw{f d k v}(a:Ok B G w h)(g:RelK c.P B s w h f d v k):PRes c B G s w h f d k v w:=
 ⟨h,Step.refl _ _ _ _,a,g⟩
def MJ(r:RelG c B G s a w h g)(n:holds s<|ZI c C){x k}(hx:Yr g C x=k)(o:k.bj=xw):
  (∃v,x=.const v)\/(∃t,x=.tmp t/\look g C t=k/\∃v,a.tmps[t]?=J v/\a.eval x=v/\RelK c.P B s w h (λp=>a.tmps[p]?) t v k)\/∃f,x=.func f/\ .val (.c<|.fn f) []=k:=by
 cases x with
 |const v=>simp
 |tmp t=>
  have j:=hx;let⟨v,l,d,_⟩:=r.look n j o;exact .inr<|.inl ⟨t,rfl,j,v,l,Act.aj a t v l,d⟩
 |global q=>grind [Yr,TK.bj]
 |func f=>exact .inr<|.inr ⟨f,rfl,hx⟩
def V1(k:RelG c B G s a w h g)(n:holds s<|ZI c C){x e sh}(d:YE g C x=J (e,sh)):
  ∃y,eval s e=J y/\Rd w (h.ext sh) y (a.eval x):=by
 unfold YE at d;cases x with
 |tmp t=>
  have o:(Yr g C<|.tmp t).bj=xw:=by
   cases r:Yr g C _<;>first|rfl|simp_all[Wj]
  let⟨v,l,j,_⟩:=k.look n rfl o;rw[Act.aj a t v l];exact FV k l j d
 |const v=>
  simp[Yr]at d;split at d;rename_i heq;simp at heq;subst heq;simp[Wj,Zhx]at d;obtain⟨rfl,rfl⟩:=d;exact⟨_,rfl,.nil _ _ Z0⟩;rename_i heq;simp at heq;subst heq;split at d;rename_i x p;simp[Wj,Zhx]at d;obtain⟨rfl,rfl⟩:=d;exact⟨x,rfl,zV p _ _⟩;grind [Wj];simp_all;simp_all;grind
 |global q=>grind [Yr,Wj]
 |func f=>
  obtain⟨rfl,rfl⟩:=d;exact⟨.fn f,rfl,.fn f⟩
def QC(j:RelG c B G s a w h g)(d:holds s<|ZI c C){x e sh}(f:Yr g C x=.val e sh):=V1 j d (by unfold YE;rw[f];rfl)
def JI(o:RelG c B G s a w h g)(l:holds s<|ZI c C){x}(j:Yr g C x=.nil):a.eval x=.slice U 0 0:=by
 obtain⟨v,rfl⟩|⟨t,rfl,_,v,p,k,d⟩|⟨f,_,n⟩:=MJ o l j rfl;rotate_left 2;cases n;simp[Yr]at j;split at j;rename_i heq;simp at heq;subst heq;rfl;grind;simp_all;simp_all;grind;rw[k];exact d
def Rd.F{x v}(hx:Rd w (h.ext []) x v):Rd w h.F x v:=hx.mono λ_ a=>GH.io a
def Rd.gk{G' G'' x v}(hx:Rd w G' x v)(a:x.bf=xk):Rd w G'' x v:=by
 cases hx<;>first|exact .int _ _|exact .bool _|exact .str _|simp[V.bf]at a
def Z9L{op x y z}(a:Xd op x y=J z){G' G'' v u}(j:Rd w G' x v)(g:Rd w G'' y u)T o p:
  ∃r,(do eqGuard op T o p v u;binOp op T v u:Sem Value).run c.P w=.ok r w/\Rd w h.F z r:=by
 cases j<;>cases g<;>(try (cases op<;>simp[Xd]at a;done))
 rename_i k n q l;cases op<;>simp only[Xd]at a<;>(try split at a)<;>(try simp[Zhh]at a)<;>(try subst a)<;>(try (simp at a;done));all_goals
  first|refine⟨.int _ _,?_,.int _ _⟩|refine⟨.bool _,?_,.bool _⟩
  first
   |(rename_i d;subst d;simp[eqGuard,binOp,Op.intArith,Op.intBits,Op.intCmp];done)
   |(rename_i d;obtain⟨rfl,f⟩:=d;simp[eqGuard,binOp,Op.intDiv,f];done)
   | (rename_i d;have:¬l<0:=by omega
      simp[eqGuard,binOp,Op.shift,this];done)
def P7{neg x y z}(d:R7 neg x y=J z){G' G'' v u}(k:Rd w G' x v)(j:Rd w G'' y u){T}(f:AD c.P T=xk)l n:
  ∃r,(do eqGuard (if neg then .neq else .eql) T l n v u;binOp (if neg then .neq else .eql) T v u:Sem Value).run c.P w=.ok r w/\Rd w h.F z r:=by
 have g:c.P.underlying T=J .bool:=by
  unfold AD at f;split at f;assumption;simp at f
 cases k with
 |bool a=>
  cases j with
  |bool b=>
   simp[R7]at d;subst d;refine⟨.bool _,?_,.bool _⟩;cases neg;simp_all[run_eql_bool,eqGuard];simp_all[run_neq_bool,eqGuard]
  |_=>simp[R7]at d
 |_=>simp[R7]at d
def Z9W{op x z}(a:SM op x=J z){G' v}(d:Rd w G' x v):∃r,(Op.unary op v).run c.P w=.ok r w/\Rd w h.F z r:=by
 cases d<;>(try (cases op<;>simp[SM]at a;done))
 .rename_i k n;cases op<;>simp only[SM,Zhh]at a<;>first|(simp at a;done)|skip
  subst a;exact⟨.int _ _,Zhb,.int _ _⟩
 .rename_i b;cases op<;>simp[SM]at a<;>first|(simp at a;done)|skip
  subst a;exact⟨.bool _,Zhb,.bool _⟩
def Z9M{k x z}(a:J7 k x=J z){G' v}(f:Rd w G' x v){S T}(d:(c.P.underlying S).isSome=xk)(j:c.P.underlying T=J (.int k)):
  ∃r,(convert S T v).run c.P w=.ok r w/\Rd w h.F z r:=by
 let⟨g,d⟩:=Ziq.1 d;cases f<;>(try (simp[J7]at a;done));simp[J7,Zhh]at a;subst a;exact⟨.int _ _,by simp_all[convert,Zi6,Conv.intToInt],.int _ _⟩
def Z9O{x z}(a:Qs x=J z){G' v}(f:Rd w G' x v){T ty e}(d:c.P.underlying T=J (.slice e)):
  ∃r,(Builtin.len_ #[T] ty #[v]).run c.P w=.ok r w/\Rd w h.F z r:=by
 cases f with
 |nil g cap y=>
  simp[Qs,Zhh]at a;subst a;exact⟨.int .i64 0,Zh2,.int _ _⟩
 |sl l b o cap k vs j n p q t u=>
  simp[Qs,Zhh]at a;subst a;exact⟨.int .i64<|I l,Zh2,.int _ _⟩
 |_=>simp[Qs]at a
def Z9R{x y z}(a:Qx x y=J z){G' G'' v u}(f:Rd w G' x v)(d:Rd w G'' y u)ts ty:
  ∃r,(Builtin.min_ ts ty #[v,u]).run c.P w=.ok r w/\Rd w h.F z r:=by
 cases f<;>(try (simp[Qx]at a;done));cases d<;>(try (simp[Qx]at a;done));rename_i k n g j;simp[Qx]at a;subst a;exact⟨.int k _,Zhb,.int _ _⟩
def Z9P{x y z}(a:Qw x y=J z){G' G'' v u}(f:Rd w G' x v)(d:Rd w G'' y u)ts ty:
  ∃r,(Builtin.max_ ts ty #[v,u]).run c.P w=.ok r w/\Rd w h.F z r:=by
 cases f<;>(try (simp[Qw]at a;done));cases d<;>(try (simp[Qw]at a;done));rename_i k n g j;simp[Qw]at a;subst a;exact⟨.int k _,Zhb,.int _ _⟩
def Z9N{x z i}(a:Sb x i=J z){G' v}(h:Rd w G' x v):∃r,(Instr.extract v i).run c.P w=.ok r w/\Rd w G' z r:=by
 cases h<;>(try (simp[Sb]at a;done));rename_i l vs f g;simp[Sb]at a;have d:i<vs.size:=by rw[f];exact(Zhj.1 a).1
 refine⟨vs.getD i xy,?_,g i z a⟩;simp[Instr.extract,d]
theorem Un{P T}(a:X5 P T=xk):∃d i,P.underlying T=J d/\P.info? T=J i/\P.cellsOf T=i.size/\∀w,(isAgg T).run P w=.ok (Y9 P T) w:=by
 simp[X5]at a;let⟨d,f⟩:=Ziq.1 a.1;let⟨i,g⟩:=Ziq.1 a.2;refine⟨d,i,f,g,by simp[Program.cellsOf,g],λw=> ?_⟩;unfold isAgg Y9;rw[Zi4,Zi6 f w,f];cases d<;>rfl
theorem Ur{P T i}(a:P.info? T=J i)w:(Go.sizeOf T).run P w=.ok i.size w:=by
 simp[Go.sizeOf,typeInfo,a]
def LW{P T}(f:X5 P T=xk)(g:Y9 P T=xw){b o v}(hc:w.cell? ⟨b,o,U⟩=J v):
  (Instr.loadAt T<|.pointer<|J ⟨b,o,U⟩).run P w=.ok v w:=by
 let⟨d,i,h,j,k,a⟩:=Un f;simp_all[Instr.loadAt,Instr.sureAddr,loadVar]
def jr{P T}(f:X5 P T=xk)(g:Y9 P T=xk){b o}(vs:List Value)(p:I vs=P.cellsOf T)(hc:∀i u,vs[i]?=J u->w.cell? ⟨b,o+i,U⟩=J u):
  (Instr.loadAt T<|.pointer<|J ⟨b,o,U⟩).run P w=.ok (.agg vs.toArray) w:=by
 let⟨d,i,h,k,q,a⟩:=Un f;have n:=run_loadCells_list (P:=P) w ⟨b,o,U⟩ vs (λj u l=>by simp_all[ZiX]);simp_all[Instr.loadAt,Instr.sureAddr,loadVar,Ur]
theorem Ss{x z}(h:YU x=J z):x=z/\z.one=xk:=by
 unfold YU at h;grind
def Z8q{p cs}:∀ {i},Tn p i cs=xk->∀j x,cs[j]?=J x->x.2=E.m p (i+j):=by
 induction cs with
 |nil=>simp
 |cons y r f=>
  intro i a j x d;let⟨k,e⟩:=y;cases e<;>simp[Tn]at a<;>first|(cases a;done)|skip
  grind
theorem AG{p i cs x}(N:Tn p i cs=xk)(w:0<I cs)(hx:eval s (.ag (cs.map (·.2)))=J (.agg x))(o:∀(j:Nat) e,cs[j]?=J e->∃y,eval s e.2=J y/\y.one=xk):
  eval s (.mm p i<|I cs)=J (.agg x):=by
 simp[eval,Zhk]at hx;let⟨f,F,M⟩:=hx;let⟨H,a⟩:=T7 F;have d:I f=I cs:=by simpa using H
 have B:∀j,j<I cs->∃l,get s p=.m l/\∃y,l[i+j]?=J y/\f[j]?=J y:=by
  intro j k;let⟨y,B,h⟩:=a j (cs[j].2) (by simp[k]);rw[Z8q N j cs[j] Z1]at h;simp[eval]at h;split at h;rename_i l H;rw[Zhg]at h;let⟨Q,h,g⟩:=h;obtain⟨rfl,_⟩:=Ss g;simp_all;grind
 let⟨l,t,_⟩:=B 0 w;have C:∀j,j<I cs->l[i+j]?=f[j]? :=by
  intro j k;let⟨P,d,y,g,r⟩:=B j k;rw[t]at d;cases d;rw[g,r]
 have K:i+I cs<=I l:=by
  have g:=C (I cs-1) Z0;have r:f[I cs-1]?=J f[I cs-1]:=Z1;rw[r]at g;have:=(Zhj.1 g).1;omega
 have L:(l.drop i).take (I cs)=f:=by
  apply ZiO;intro j;rw[ZhV];split;simp_all;simp_all
 have A:∀y∈f,y.one=xk:=by
  intro y D;let⟨j,k⟩:=ZhI D;have u:j<I cs:=by have:=(Zhj.1 k).1;omega
  let⟨z,O,G⟩:=o j cs[j] Z1;let⟨R,q,n⟩:=a j (cs[j].2) (by simp[u]);rw[k]at q;cases q;rw[O]at n;cases n;exact G
 simp_all[S7,V.agg.injEq,Uh,eval]
def RelCs.part{P t cs vs}(f:RelCs P B s w h t cs vs){o n}(j:I ((cs.drop o).take n)=n):
  ∀i d,((cs.drop o).take n)[i]?=J d->RelC P B s w h (h.bl t<|o+i+1) d.1 d.2 (vs.getD (o+i) xy)/\vs[o+i]?=J (vs.getD (o+i) xy):=by
 intro i d a;rw[ZhV]at a;split at a;rw[ZhM]at a;refine⟨f.2 _ _ a,?_⟩;have g:o+i<vs.size:=by rw[f.1];exact(Zhj.1 a).1
 simp_all;grind
def RelCs.iu{P t cs vs}(H:RelCs P B s w h t cs vs){o n}(r:I ((cs.drop o).take n)=n)(Y:WA ((cs.drop o).take n)=xw){G'}(M:∀b,h.F b->G' b)
  (ho:UY ((cs.drop o).take n)=xk->∀i b,h.bl t (i+1)=J b->G' b):
  ∃x,eval s (.ag (((cs.drop o).take n).map (·.2)))=J (.agg x)/\I x=n/\(∀(j:Nat) e,((cs.drop o).take n)[j]?=J e->∃y,eval s e.2=J y/\y.one=xk)/\
   Rd w G' (.agg x) (.agg ((vs.toList.drop o).take n).toArray)/\∀i u,((vs.toList.drop o).take n)[i]?=J u->vs[o+i]?=J u:=by
 have Q:=H.part r;have R:I ((vs.toList.drop o).take n)=n:=by
  have D:=H.1;simp at r⊢;omega
 have A:∀i,i<n->((vs.toList.drop o).take n)[i]?=vs[o+i]? :=by
  intro i a;rw[ZhV,Zht a,ZhM,ZiF]
 have key:∀i k e,((cs.drop o).take n)[i]?=J (k,e)->∃x,eval s e=J x/\x.one=xk/\Rd w G' x (vs.getD (o+i) xy):=by
  intro i k e a;refine(Q i _ a).1.rd ?_ M ?_;grind [WA,List.any_eq_true];grind [UY,List.any_eq_true]
 have d:∀e∈((cs.drop o).take n).map (·.2),∃x,eval s e=J x:=by
  intro e N;obtain⟨⟨k,X⟩,hm,rfl⟩:=ZhC.1 N;grind [List.getElem?_of_mem]
 let⟨p,C⟩:=GE d;let⟨O,S⟩:=T7 C;have q:I p=n:=by rw[O,ZhN,r]
 have G:∀i x,p[i]?=J x->x.one=xk/\Rd w G' x (vs.getD (o+i) xy):=by
  intro i x a;have f:i< I ((cs.drop o).take n):=by
   have:=(Zhj.1 a).1;omega
  let⟨y,W,D,L⟩:=key i ((cs.drop o).take n)[i].1 ((cs.drop o).take n)[i].2 Zgl;let⟨z,K,l⟩:=S i (((cs.drop o).take n)[i].2) Zgl;rw[a]at K;cases K;rw[W]at l;cases l;exact⟨D,L⟩
 have g:∀x∈p,x.one=xk:=λx T=>by
  grind [List.getElem?_of_mem]
 refine⟨p,?_,q,λj e Z=> ?_,.agg p _ Zgm g λi x a=> ?_,λi u a=> ?_⟩;simp_all[eval,ZhL,S7,Uh];grind;have f:i<n:=by have:=(Zhj.1 a).1;omega
 have:((vs.toList.drop o).take n).toArray.getD i xy=vs.getD (o+i) xy:=by
  simp[Zhn,ZiV,A i f]
 simp_all;grind
end
end Vm
namespace Vm
open Go
open Go.RowKit (Below)
section
variable {c:Ctx}{B:Nat}{G:Nat->Prop}{s:St}{a:Act}{w:World}{h:GH}{g:Gam}{C:ZF}
def Has(c:Ctx)(B:Nat)(s:St)(w:World)(h:GH)(a:Nat->Option Value)(d:Nat)(k:TK)(m:Sem Value):Prop:=
 ∃v,m.run c.P w=.ok v w/\RelK c.P B s w h a d v k
def H1{x z o}(h:Y0 x o=J z):x.pc[o]?=J z:=by
 unfold Y0 at h;rw[Zhg]at h;let⟨y,a,d⟩:=h;rw[a,(Ss d).1]
def yt{x z o n}(h:UC x o n=J z):o+n<=I x.pc/\z=.agg ((x.pc.drop o).take n):=by
 simp_all[UC,Zhh]
def BL{T}(A:X5 c.P T=xk){x b q o}{vs:Nat->Value}{sh}(C:∀y∈x.pc,y.one=xk)
  (j:∀i,i<I x.pc->w.cell? ⟨b,q+i,U⟩=J (vs i)) (r:∀i y,x.pc[i]?=J y->Rd w (h.ext sh) y (vs i)) {e} (n:eval s e=J x)
  (p:∃z,eval s (if Y9 c.P T then .bb e o (c.P.cellsOf T)else .ae e o)=J z) F d:
  Has c B s w h F d (.val (if Y9 c.P T then .bb e o (c.P.cellsOf T)else .ae e o) sh) (Instr.loadAt T<|.pointer<|J ⟨b,q+o,U⟩):=by
 let⟨z,g⟩:=p;cases f:Y9 c.P T with
 |false=>
  rw[f]at g;simp[eval,n]at g⊢;have t:=H1 g;have a:=(Zhj.1 t).1;exact⟨vs o,LW A f Zgm,z,by simp[eval,n];exact g,Zgm⟩
 |true=>
  rw[f]at g;simp[eval,n]at g⊢;obtain⟨D,rfl⟩:=yt g;have l:I ((x.pc.drop o).take<|c.P.cellsOf T)=c.P.cellsOf T:=Zgn;refine⟨.agg ((List.range<|c.P.cellsOf T).map λi=>vs<|o+i).toArray,jr A f _ Z1 (λi u k=> ?_),_,by simp[eval,n];exact g,?_⟩;have a:i<c.P.cellsOf T:=by simpa using(Zhj.1 k).1
  have:vs (o+i)=u:=by simpa[a]using k
  rw[<-this,Ziw];exact j _ Z0;refine .agg _ _ (by simp[l]) Zgl λi y k=> ?_;have a:i<c.P.cellsOf T:=by have:=(Zhj.1 k).1;omega
  rw[ZhV,Zht a,ZhM]at k;have:((List.range<|c.P.cellsOf T).map λi=>vs<|o+i).toArray.getD i xy=vs (o+i):=by
   simp[a]
  rw[this];exact r _ y k
def Rd.gl{G' G'' x v}(hx:Rd w G' x v)(q:∀y∈x.cells,y.bf=xk)(G:∀l,x≠.am l):Rd w G'' x v:=by
 cases hx with
 |agg j vs d g h=>exact .agg j vs d g λi y r=>(h i y r).gk<|q y<|Zhq r
 |am l vs d g=>simp_all
 |int k n=>exact .int _ _
 |bool b=>exact .bool _
 |str b=>exact .str _
 |nil a cap A=>exact .nil _ _ A
 |sl l b o cap k vs d g h p u z=>simp_all[V.cells,V.bf]
 |ptr j b o vs d g h p=>simp_all[V.cells,V.bf]
 |fn f=>exact .fn f
 |cq f j vs d g=>simp_all[V.cells,V.bf]
 |ib=>exact .ib
 |ic=>exact .ic
 |lw=>exact .lw
 |mp id B C b t D F d g h p u z=>exact absurd (q (.mp id B C)<|by simp[V.cells]) (by simp[V.bf])
def JH(q:RelG c B G s a w h g)(l:holds s<|ZI c C){x k}(hx:Yr g C x=k)(d:k.bj=xw):
  ((∃e,k=.val e [])\/k=.nil)\/∃t,x=.tmp t/\(∃v,a.tmps[t]?=J v/\a.eval x=v/\RelK c.P B s w h (λp=>a.tmps[p]?) t v k)/\(g.at t).2=k/\Q6 (g.at t).1 C=xk:=by
 obtain⟨v,rfl⟩|⟨t,rfl,o,v,z,n,j⟩|⟨f,_,y⟩:=MJ q l hx d;rotate_left 2;grind;left;simp[Yr]at hx;split at hx;exact .inr hx.symm;split at hx;exact .inl ⟨_,hx.symm⟩;subst hx;simp[TK.bj]at d;simp_all;simp_all;subst hx;simp[TK.bj]at d;let⟨r,u⟩:=IX o d;simp_all
def RelK.th{a t d v k}(g:RelK c.P B s w h a t v k)(f:k.lr=xk):RelK c.P B s w h a d v k:=by
 cases k<;>first|exact g|simp[TK.lr]at f
def XJ(n:RelG c B G s a w h g)(j:holds s<|ZI c C){x k}(hx:Yr g C x=k)(q:k.lr=xk)d:
  RelK c.P B s w h (λp=>a.tmps[p]?) d (a.eval x) k:=by
 have r:k.bj=xw:=by cases k<;>first|rfl|simp[TK.lr]at q
 obtain(⟨e,rfl⟩|rfl)|⟨t,rfl,⟨v,z,l,f⟩,_⟩:=JH n j hx r;let⟨y,u,o⟩:=QC n j hx;exact⟨y,u,o⟩;exact JI n j hx;rw[l];exact f.th q
def Z8f(n:RelG c B G s a w h g)(q:holds s<|ZI c C){x k es}(f:CY g C x=J (k,es))d:
  RelK c.P B s w h (λp=>a.tmps[p]?) d (a.eval x) k:=by
 unfold CY at f;split at f;rename_i A;obtain⟨rfl,rfl⟩:=f;exact XJ n q rfl A d;split at f;rename_i t F e _ l;obtain⟨rfl,rfl⟩:=f;let⟨v,j,_⟩:=n.look q (show look g C t=_ from l) rfl;rw[Act.aj a t v j];exact j;rename_i t r _ l;obtain⟨rfl,rfl⟩:=f;let⟨v,j,⟨b,vs,T,u,y,_⟩,_⟩:=n.look q (show look g C t=_ from l) rfl;rw[Act.aj a t v j];exact⟨b,u,y⟩;rename_i t r _ l;simp only[Zhk]at f;let⟨⟨e,D⟩,z,f⟩:=f;obtain⟨rfl,rfl⟩:=f;let⟨v,j,o,_⟩:=n.look q (show look g C t=_ from l) rfl;rw[Act.aj a t v j];exact FV n j o z;grind
def Qd{fl b v y}(k:eval s b.1=J y)(f:Rd w (h.ext b.2) y v)(o:∃z,eval s (XT fl b).1=J z):
  ∃z,eval s (XT fl b).1=J z/\Rd w (h.ext (XT fl b).2) z v:=by
 let⟨z,a⟩:=o;unfold XT at a⊢;split;simp_all;split;rename_i j d;simp[j,d,eval,k]at a;refine⟨z,by simp_all[eval,Zhu],?_⟩;unfold WE at a;split at a;grind;rename_i p;split at a;rename_i g;simp at a;subst a;exact f.gl Zgm λl n=>p l n;grind;simp_all
def Z80(o:RelG c B G s a w h g)(n:holds s<|ZI c C){ty x k es}(j:CL c g C ty x=J (k,es))(t:∀e∈es,∃z,eval s e=J z)d:
  RelK c.P B s w h (λp=>a.tmps[p]?) d (a.eval x) k:=by
 unfold CL at j;split at j;rename_i e l;obtain⟨rfl,rfl⟩:=j;exact XJ o n l rfl d;rename_i e p D l;split at j;simp at j;obtain⟨rfl,rfl⟩:=j;let⟨y,u,q⟩:=QC o n l;have:=Qd (s:=s) (w:=w) (h:=h) (fl:=xk) (b:=(e,p::D)) u q (by simp_all[XT]);let⟨z,F,A⟩:=this;exact⟨z,by simp_all[XT],by simp_all[XT]⟩;grind;rename_i l;obtain⟨rfl,rfl⟩:=j;exact XJ o n l rfl d;rename_i f r l;obtain⟨rfl,rfl⟩:=j;exact XJ o n l rfl d;grind
def Z8g(H:RelG c B G s a w h g)(A:holds s<|ZI c C){x k es}(l:CZ g C x=J (k,es))(D:∀e∈es,∃z,eval s e=J z)o(N:o.op=.nilCheck x)d:
  ∃v,(execOp a.eval o).run c.P w=.ok (.value v) w/\RelK c.P B s w h (λp=>a.tmps[p]?) d v k:=by
 unfold execOp;simp[N];unfold CZ at l;split at l;rename_i O j;obtain⟨rfl,rfl⟩:=l;obtain⟨t,rfl,⟨v,Q,F,⟨b,vs,T,f,rfl,_⟩⟩,_⟩:=(JH H A j rfl).resolve_left Z1;rw[F];exact⟨_,rfl,b,f,rfl⟩;rename_i p q j;obtain⟨rfl,rfl⟩:=l;let⟨b,f,u⟩:=XJ H A j rfl d;rw[u];exact⟨_,rfl,b,f,rfl⟩;rename_i e R j;obtain⟨rfl,rfl⟩:=l;let⟨y,K,n⟩:=QC H A j;let⟨z,r⟩:=D _<|List.Mem.head _;generalize a.eval x=v at n;simp[eval,K]at r;unfold Tu at r;split at r;cases n with
 |ptr _ b o vs f u L M=>exact⟨_,rfl,_,K,.ptr _ b o vs f u L M⟩
 cases r;grind
theorem IR(W:RelG c B G s a w h g){T}(D:X5 c.P T=xk){p o k}(l:yZ c g T p o=J k){b}(q:h.bl p 0=J b)d:
  Has c B s w h (λp=>a.tmps[p]?) d k (Instr.loadAt T<|.pointer<|J ⟨b,o,U⟩):=by
 unfold yZ at l;simp only[Zhg]at l;let⟨N,Q,l⟩:=l;let⟨b',vs,K,F,_,H,j⟩:=W.db Q;rw[q]at F;cases F;split at l;rename_i r;split at l;rename_i y;let⟨R,O,h0⟩:=y;simp at l;let⟨x,M,Y,L,z,X⟩:=j.iu R O (G':=h.ext<|if UY ((N.drop o).take<|c.P.cellsOf T)=xk then [p]else []) (λb q=>GH.bp q) (λS i b q=>by rw[Zht S];exact .inr ⟨p,Z1,i,q⟩);refine⟨_,jr D r ((vs.toList.drop o).take<|c.P.cellsOf T) ?_ (λi u hi=> ?_),?_⟩;have h2:=j.1;simp_all;grind [cell_of_row];rw[<-l];refine⟨.agg x,?_,z⟩;grind [AG];grind;rename_i r;have n:Y9 c.P T=xw:=by simpa using r
 split at l;rename_i e t;simp at l;let⟨x,M,F,z⟩:=j.2 o _ t;have A:o<vs.size:=ZgV;refine⟨vs.getD o xy,LW D n Zh5,?_⟩;rw[<-l];exact⟨x,M,z.mono λb q=>GH.bp q⟩;rename_i Z e t;simp at l;have A:o<vs.size:=ZgV;have f:w.cell? ⟨b,o,U⟩=J (vs.getD o xy):=Zh5;refine⟨vs.getD o xy,LW D n f,?_⟩;rw[<-l];exact⟨b,q,f⟩;rename_i e t;simp at l;let⟨C,_⟩:=j.2 o _ t;have A:o<vs.size:=ZgV;have f:w.cell? ⟨b,o,U⟩=J (vs.getD o xy):=Zh5;refine⟨vs.getD o xy,LW D n f,?_⟩;rw[<-l];exact C;grind
def zL{x i z n k ag}(d:Ya x i n k ag=J z):∃a f j,x=.agg a/\i=.int f (j:Nat)/\j<n/\I a=n*k/\
  (if ag then J (V.agg<|(a.drop<|j*k).take k)else a[j*k]?)=J z:=by
 unfold Ya at d;split at d;rename_i a f i;split at d;rename_i l;let⟨g,o,h⟩:=l;obtain⟨j,rfl⟩:=Zhy g;exact⟨a,f,j,rfl,rfl,Z0,h,Zgz⟩;grind;grind
theorem Z66(hr:RelG c B G s a w h g){T}(hT:X5 c.P T=xk){p o j m f k}(K:BJ c g T p o j m f=J k)(a0:∀e∈E8 k,∃z,eval s e=J z)
  {b q} (Q:h.bl p 0=J b) {ki} (hj:eval s j=J (.int ki (q:Nat))) (hq:q<m) d:
  Has c B s w h (λp=>a.tmps[p]?) d k (Instr.loadAt T<|.pointer<|J ⟨b,o+q*f,U⟩):=by
 unfold BJ at K;simp only[Zhg]at K;let⟨O,hm,K⟩:=K;let⟨b',vs,ty,h1,_,hh,R⟩:=hr.db hm;rw[Q]at h1;cases h1;split at K;rename_i L;let⟨Z,hk,h0,a9,hd⟩:=L;simp only[Zhh]at K;let⟨x,hx,Y,X,a5,b0⟩:=R.iu Z hd (G':=h.F) Z1 Zgm;have H:eval s (if Tn (c.ix p) o ((O.drop o).take<|m*f)=xk then E.mm (c.ix p) o (I<|(O.drop o).take<|m*f) else .ag (((O.drop o).take<|m*f).map (·.2)))=J (.agg x):=by
  split;rename_i hp;exact AG hp (by rw[Z];exact h0) hx X;exact hx
 generalize (if Tn _ o _=xk then E.mm _ o (I<|(O.drop o).take _) else .ag _)=ee at H K;subst K;let⟨z,N⟩:=a0 _<|List.Mem.head _;simp[eval,H,hj,Zhu]at N;let⟨a7,b1,C,S,a2,a4,a6,r⟩:=zL N;cases S;have a3:C=q:=by
  simp at a2;omega
 subst a3;have a8:C*f+f<=m*f:=by
  rw[<-ZiG];exact Zi1 _ a4
 have t:∀i,i<m*f->w.cell? ⟨b,o+i,U⟩=J (vs.getD (o+i) xy):=by
  intro i n;have a1:i< I ((O.drop o).take<|m*f):=by rw[Z];exact n
  have:=(R.part Z i _<|Zhi a1).2;rw[Zhv w b _ vs ty _ hh,this]
 have A:∀i y,x[i]?=J y->y.one=xk/\Rd w h.F y (vs.getD (o+i) xy):=by
  intro i y n;have W:i<m*f:=by rw[<-Y];exact(Zhj.1 n).1
  cases a5 with
  |agg _ _ h1 h2 h3=>
   have:=h3 i y n;have hg:((vs.toList.drop o).take<|m*f).toArray.getD i xy=vs.getD (o+i) xy:=by
    simp[Zhn,ZiV,ZhV,Zht W,ZhM,ZiF]
   rw[hg]at this;exact⟨h2 y<|Zhq n,this⟩
 cases D:Y9 c.P T with
 |false=>
  rw[D]at r N;have l:C*f<m*f:=by rw[<-Y];exact(Zhj.1 r).1
  refine⟨_,LW hT D<|t _ l,z,by simp[eval,H,hj,Zhu];exact N,(A _ z r).2.mono λb Q=>GH.bp Q⟩
 |true=>
  rw[D]at r N;simp at r;subst r;refine⟨.agg ((List.range f).map λi=>vs.getD (o+(C*f+i)) xy).toArray,jr hT D _ (by simp[hk]) (λi u n=> ?_),_,by simp[eval,H,hj,Zhu];exact N,?_⟩;have l:i<f:=by simpa using(Zhj.1 n).1
  have:vs.getD (o+(C*f+i)) xy=u:=by simpa[l]using n
  rw[<-this,show o+C*f+i=o+(C*f+i)from by omega];exact t _ Z0;have M:I ((x.drop<|C*f).take f)=f:=Zgn;refine .agg _ _ (by simp[ZiP,ZhN,List.length_range,M]) (λy hy=> ?_) λi y n=> ?_;let⟨i,n⟩:=ZhI<|ZjC<|Zio hy;exact(A i y n).1;have l:i<f:=by have:=(Zhj.1 n).1;omega
  rw[ZhV,Zht l,ZhM]at n;have:((List.range f).map λi=>vs.getD (o+(C*f+i)) xy).toArray.getD i xy=vs.getD (o+(C*f+i)) xy:=by
   simp[Zhn,l]
  rw[this];exact(A _ y n).2.mono λb Q=>GH.bp Q
 simp at K
def OwnV.elem{o ty x v}(Q:OwnV c.P B w h o ty x v){S q y T}(d:Xc x (.int S (q:Nat)) T=J y):
  ∃l n cap a,∃D:Nat->Value,x=.sl l/\l[q]?=J y/\o=J n/\v=.slice (J ⟨n,0,U⟩) (I l) cap/\w.heap[n]?=J (.cells a ty (0,0))/\y.au (c.P.cellsOf ty)/\q*c.P.cellsOf ty+c.P.cellsOf ty<=a.size/\
   (∀i,i<c.P.cellsOf ty->w.cell? ⟨n,q*c.P.cellsOf ty+i,U⟩=J (D i))/\∀i z,y.cells[i]?=J z->Rd w h.F z (D i):=by
 obtain⟨l,D,rfl,X,f,g,M,r⟩|⟨_,_,_,_,_,_,rfl,_⟩:=Q;case inr=>simp[Xc]at d
 simp only[Xc]at d;split at d;rw[ZhA,Zhg]at d;let⟨W,d,j⟩:=d;split at j<;>first|(simp at j;subst W)|simp_all
 have p:=(Zhj.1 d).1;obtain⟨rfl,Y⟩|⟨n,cap,a,rfl,_,G,k,_,t,A⟩:=g.2;omega;have H:q*c.P.cellsOf ty+c.P.cellsOf ty<=I l*c.P.cellsOf ty:=by
  rw[<-ZiG];exact Zi1 _ p
 have K:I l*c.P.cellsOf ty<=a.size:=by rw[t];exact Zi1 _ k
 refine⟨l,n,cap,a,λi=>a.getD (q*c.P.cellsOf ty+i) xy,rfl,d,by rw[<-M];rfl,rfl,G,Zgl,Z0,λi N=> ?_,λi z R=> ?_⟩;rw[Zhv w n _ a ty _ G];have:q*c.P.cellsOf ty+i<a.size:=Z0;simp_all;have N:i<c.P.cellsOf ty:=by
  have:=(Zhj.1 R).1;rw[(f y<|Zhq d).1]at this;exact this
 let⟨u,L,O⟩:=r (q*c.P.cellsOf ty+i) z (by simp_all[VT]);have:a.getD (q*c.P.cellsOf ty+i) xy=u:=by
  rw[<-A,ZhV,Zht Z0]at L;have C:a[q*c.P.cellsOf ty+i]?=J u:=Zh6;simp[Zhn,C]
 simp_all;omega
def GX{x:V}{k}(h:x.au k):x.pc=x.cells:=by
 rfl
theorem Z67(hr:RelG c B G s a w h g){T}(S:X5 c.P T=xk){p i j o C k}(u:BK c g T p i j o C=J k)(L:∀e∈E8 k,∃z,eval s e=J z)
  {n q} (K:h.bl p (Ru i)=J n) {Q} (W:eval s j=J (.int Q (q:Nat))) d:
  Has c B s w h (λp=>a.tmps[p]?) d k (Instr.loadAt T<|.pointer<|J ⟨n,q*C+o,U⟩):=by
 unfold BK at u;simp only[Zhg]at u;let⟨⟨ty,e⟩,Z,u⟩:=u;split at u;rename_i X;simp at u;subst u;let⟨v,x,_,hx,F⟩:=hr.place Z;let⟨z,t⟩:=L _<|List.Mem.head _;have D:∃y,eval s (.az e j C)=J y:=by
  unfold Kz at t;split at t;simp[eval]at t⊢;cases H:((eval s e).bind λx=>(eval s j).bind λy=>Xc x y C)with
  |none=>simp_all
  |some y=>simp
  simp[eval]at t⊢;cases H:((eval s e).bind λx=>(eval s j).bind λy=>Xc x y C)with
  |none=>simp_all
  |some y=>simp
 let⟨y,H⟩:=D;have O:Xc x (.int Q q) C=J y:=by
  simp[eval,hx,W,Zhu]at H;exact H
 obtain⟨l,n',cap,R,xs,rfl,Y,M,rfl,hh,f,_,r,N⟩:=F.elem O;rw[K]at M;simp at M;subst M;rw[X]at r f;have A:=GX f;exact BL (c:=c) (B:=B) (sh:=[p]) S (b:=n) (q:=q*C) (o:=o) (vs:=xs) (by rw[A];exact f.2) (by rw[A,f.1];exact r) (λi z t=>by rw[A]at t;exact(N i z t).mono λb K=>GH.bp K) H ⟨z,t⟩ _ d;grind
def Z88(A:RelG c B G s a w h g)(D:holds s<|ZI c C){T x k es}(N:CT c g C T x=J (k,es))(K:∀e∈es,∃z,eval s e=J z)d:
  Has c B s w h (λp=>a.tmps[p]?) d k (Instr.loadAt T<|a.eval x):=by
 unfold CT at N;split at N;rename_i O;simp at N;obtain⟨k',r,rfl,rfl⟩:=N;unfold IQ at r;split at r;rename_i S f;obtain⟨t,rfl,⟨v,hv,P,⟨b,vs,ty,l,rfl,_⟩⟩,_⟩:=(JH A D f rfl).resolve_left Z1;rw[P];exact IR A O r l d;rename_i p o f;let⟨b,l,F⟩:=XJ A D f rfl d;grind [IR];rename_i e o sh f;simp at r;subst r;let⟨y,b,q,vs,X,l,F,H,M,Y⟩:=XJ A D f rfl d;rw[l];exact BL O H M Y X (K _<|List.Mem.head _) _ d;rename_i e sh f;simp at r;subst r;let⟨y,Z,L⟩:=QC A D f;let⟨z,W⟩:=K _<|List.Mem.head _;have Q:∃u,Tu y=J u:=by
  unfold Kz at W;cases R:Tu y with
  |none=>grind [eval]
  |some u=>simp
 let⟨u,R⟩:=Q;generalize a.eval x=v at L;cases L with
 |ptr S b o vs l F H M=>
  simp[Tu,Zhh]at R;exact BL (c:=c) (B:=B) (sh:=sh) O (x:=.agg S) (b:=b) (q:=o) (o:=0) (vs:=vs) F H M (by simp[eval,Z,Tu]) ⟨z,W⟩ _ d
 |_=>simp[Tu]at R
 rename_i p i j o kk f;let⟨n,q,l,⟨ki,F⟩,H⟩:=XJ A D f rfl d;grind [Z67];rename_i p o j m kk f;let⟨b,q,l,⟨ki,F⟩,H,M⟩:=XJ A D f rfl d;grind [Z66];grind;grind
end
end Vm
namespace Vm
open Go
open Go.RowKit (Below)
section
variable {c:Ctx}{B:Nat}{G:Nat->Prop}{s:St}{a:Act}{w:World}{h:GH}{g:Gam}{C:ZF}
def Br{P:Program}{T}(h:P.cellsOf T≠0):∃i,P.info? T=J i/\P.cellsOf T=i.size:=by
 unfold Program.cellsOf at h⊢;cases a:P.info? T with
 |none=>grind
 |some i=>simp
def PR{P T fs}(h:VM P T=.st fs):∃a,P.underlying T=J (.struct a)/\(∀d∈a,X5 P d.type=xk)/\fs=a.toList.map λf=>(f.offset,P.cellsOf f.type,Y9 P f.type,XI P f.type):=by
 unfold VM at h;grind
def GL{P T f x}(g:KJ P T f=J x):
  ∃d a,P.underlying T=J (.struct d)/\d[f]?=J a/\X5 P a.type=xk/\x=(a.offset,P.cellsOf a.type,Y9 P a.type,XI P a.type):=by
 unfold KJ at g;split at g;rename_i d h;obtain⟨k,l,j,rfl⟩:=PR h;grind;cases g
def LV{T f b o x}(a:KJ c.P T f=J x)(g:x.2.1≠0):
  (Instr.fieldAt T (.pointer<|J ⟨b,o,U⟩) f).run c.P w=.ok (.pointer<|J ⟨b,o+x.1,U⟩) w:=by
 obtain⟨j,h,n,d,_,rfl⟩:=GL a;let⟨i,k,l⟩:=Br g;simp_all[Instr.fieldAt,Zi6,Instr.sureAddr,fieldPlace,Ur,ZiX]
def Z84(N:RelG c B G s a w h g)(K:holds s<|ZI c C){T x f k es}(l:CP c g C T x f=J (k,es))(Q:∀e∈es,∃z,eval s e=J z)d:
  Has c B s w h (λp=>a.tmps[p]?) d k (Instr.fieldAt T (a.eval x) f):=by
 unfold CP at l;simp only[Zhg]at l;let⟨y,L,l⟩:=l;split at l;grind;rename_i M;split at l;rename_i S D;obtain⟨rfl,rfl⟩:=l;obtain⟨t,rfl,⟨v,hv,R,⟨b,vs,ty,A,rfl,_⟩⟩,_⟩:=(JH N K D rfl).resolve_left Z1;rw[R];exact⟨_,LV L M,b,A,Z1⟩;rename_i p q D;obtain⟨rfl,rfl⟩:=l;let⟨b,A,F⟩:=XJ N K D rfl d;rw[F];exact⟨_,LV L M,b,A,rfl⟩;rename_i e q sh D;obtain⟨rfl,rfl⟩:=l;let⟨z,b,r,vs,Y,A,F,H,P,Z⟩:=XJ N K D rfl d;rw[A];exact⟨_,LV L M,z,b,r,vs,Y,Z1,F,H,P,Z⟩;rename_i e sh D;obtain⟨rfl,rfl⟩:=l;let⟨u,W,O⟩:=QC N K D;let⟨z,X⟩:=Q _<|List.Mem.head _;simp[eval,W,Zhu]at X;generalize a.eval x=v at O;cases O with
 |ptr S b o vs A F H P=>
  exact⟨_,LV L M,.agg S,b,o,vs,by simp[eval,W,Tu],rfl,A,F,H,P⟩
 |_=>simp[Tu]at X
 rename_i p i j q kk D;obtain⟨rfl,rfl⟩:=l;let⟨n,r,A,F,H⟩:=XJ N K D rfl d;rw[H];exact⟨_,LV L M,n,r,A,F,Z1⟩;grind
def K0{P T a}(h:VM P T=.sl a):P.underlying T=J (.slice a):=by
 grind [VM]
def DV{P T a n}(h:VM P T=.ar n a):P.underlying T=J (.array n a):=by
 grind [VM]
def Hz{x j z k}(d:Xc x j k=J z):∃l f q,x=.sl l/\j=.int f (q:Nat)/\l[q]?=J z/\I z.cells=k:=by
 unfold Xc at d;split at d;rename_i l f i;split at d;rename_i g;obtain⟨q,rfl⟩:=Zhy g;rw[Zhg]at d;let⟨n,h,a⟩:=d;split at a<;>first|(simp at a;subst n)|simp_all
 exact⟨l,f,q,rfl,rfl,h,by assumption⟩;grind;grind
def Rd.int_eq{G' a n v}(h:Rd w G' (.int a n) v):v=.int a n:=by cases h;rfl
def P8{T a}(f:c.P.underlying T=J (.slice a))(d:X5 c.P a=xk){b o len cap k q}(h:q<len):
  (Instr.indexAt T (.slice (J ⟨b,o,U⟩) len cap)<|.int k q).run c.P w=.ok (.pointer<|J ⟨b,o+q*c.P.cellsOf a,U⟩) w:=by
 let⟨l,i,p,g,j,_⟩:=Un d;have n:(0:Int)<=q/\q<len:=Z0;simp[Instr.indexAt,asIntOf,Zi6 f,h,Ur g,j,ZiX]
def Z86(X:RelG c B G s a w h g)(Y:holds s<|ZI c C){T x i k es}(r:CS c g C T x i=J (k,es))(R:∀e∈es,∃z,eval s e=J z)d:
  Has c B s w h (λp=>a.tmps[p]?) d k (Instr.indexAt T (a.eval x)<|a.eval i):=by
 unfold CS at r;split at r;rename_i A hT;have N:=K0 hT;simp only[Zhg]at r;let⟨⟨j,sj⟩,hj,r⟩:=r;let⟨y,hy,O⟩:=V1 X Y hj;have own:∀ {p} {pi:Option Nat},Yr g C x=QD p pi->yS c g p pi A j=J (k,es)->Has c B s w h (λp=>a.tmps[p]?) d k (Instr.indexAt T (a.eval x)<|a.eval i):=by
  intro p pi L F;unfold yS at F;simp only[Zhg]at F;let⟨⟨ty,e⟩,ho,F⟩:=F;split at F;rename_i W;let⟨W,f⟩:=W;simp at F;obtain⟨rfl,rfl⟩:=F;have a8:=XJ X Y L (by cases pi<;>rfl) 0;let⟨xv,b8,a7⟩:=X.gh ho a8;let⟨z,H⟩:=R _<|List.Mem.head _;simp[eval,b8,hy,Zhu]at H;have b9:=H;obtain⟨l,ki,q,rfl,rfl,M,_⟩:=Hz H;let⟨l',n,cap,d5,xs,b6,_,b0,hv,_⟩:=a7.elem b9;cases b6;rw[hv,O.int_eq];refine⟨_,P8 N f (Zhj.1 M).1,n,q,?_,⟨ki,hy⟩,by rw[Zi5,ZiZ]⟩;cases pi<;>exact b0;simp at F
 split at r;rename_i p L;exact own (pi:=U) L r;rename_i p q L;exact own (pi:=J q) L r;rename_i e sh L;split at r;rename_i f;simp at r;obtain⟨rfl,rfl⟩:=r;let⟨u,hu,S⟩:=QC X Y L;let⟨z,H⟩:=R _<|List.Mem.head _;have a3:=H;simp[eval,hu,hy,Zhu]at H;obtain⟨l,ki,q,rfl,rfl,M,c0⟩:=Hz H;rw[O.int_eq];generalize a.eval x=v at S;cases S with
 |nil a' cap hc=>simp at M
 |sl _ b o cap kk vs h1 h2 h3 h4 h5 h6=>
  have D:=h4 z<|Zhq M;have b5:kk=c.P.cellsOf A:=by rw[<-D.1,c0]
  subst b5;have a5:=(Zhj.1 M).1;have b7:q*c.P.cellsOf A+c.P.cellsOf A<=I l*c.P.cellsOf A:=by
   rw[<-ZiG];exact Zi1 _ a5
  have a2:=GX D;refine⟨_,P8 N f a5,z,b,o+q*c.P.cellsOf A,λi=>vs<|q*c.P.cellsOf A+i,a3,by rw[ZiZ],h3,by rw[a2];exact D.2,λi K=> ?_,λi u K=> ?_⟩;rw[a2,D.1]at K;rw[Ziw];exact h5 _ Z0;rw[a2]at K;have b3:i<c.P.cellsOf A:=by rw[<-D.1];exact(Zhj.1 K).1
  exact h6 _ u (by rw[VT h4 M i b3];exact K)
 simp at r;simp at r;rename_i n A hT;have N:=DV hT;split at r;simp at r;rename_i f;simp at f;simp only[Zhg]at r;let⟨⟨j,sj⟩,hj,r⟩:=r;let⟨y,hy,O⟩:=V1 X Y hj;have fin:∀ {p o b},a.eval x=.pointer (J ⟨b,o,U⟩)->h.bl p 0=J b->J (TK.pa p o j n<|c.P.cellsOf A,[E.ai (.c<|.agg<|List.replicate n<|.bool xk) j n 1 xw])=J (k,es)->Has c B s w h (λp=>a.tmps[p]?) d k (Instr.indexAt T (a.eval x)<|a.eval i):=by
  intro p o b a1 hb heq;simp at heq;obtain⟨rfl,rfl⟩:=heq;let⟨z,H⟩:=R _<|List.Mem.head _;simp[eval,hy,Zhu]at H;obtain⟨cs,ki,q,_,rfl,hq,_⟩:=zL H;rw[a1,O.int_eq];let⟨dd,info,hd,K,hs,_⟩:=Un f;refine⟨_,?_,b,q,hb,⟨ki,hy⟩,hq,rfl⟩;simp[Instr.indexAt,asIntOf,Zi6 N,hq,Ur K,hs,ZiX,Instr.sureAddr]
 split at r;rename_i cs L;obtain⟨t,rfl,⟨v,hv,a1,⟨b,vs,ty,h1,rfl,_⟩⟩,_⟩:=(JH X Y L rfl).resolve_left (by rintro(⟨e,h⟩|h)<;>cases h);exact fin a1 h1 r;rename_i p o L;let⟨b,h1,h2⟩:=XJ X Y L rfl d;exact fin h2 h1 r;rename_i e o sh L;simp at r;obtain⟨rfl,rfl⟩:=r;let⟨u,b,q0,vs,he,hv,a4,a6,a0,S⟩:=XJ X Y L rfl d;let⟨z,H⟩:=R _<|List.Mem.head _;have a3:=H;simp[eval,he,hy,Zhu,Zhg]at H;let⟨cs,b2,H⟩:=H;obtain⟨b7,rfl⟩:=yt b2;obtain⟨d0,ki,q,b1,rfl,hq,c8,a9⟩:=zL H;cases b1;simp at a9;rw[hv,O.int_eq];let⟨dd,info,hd,K,hs,_⟩:=Un f;have c1:q*c.P.cellsOf A+c.P.cellsOf A<=n*c.P.cellsOf A:=by
  rw[<-ZiG];exact Zi1 _ hq
 have Z:∀i x,z.pc[i]?=J x->i<c.P.cellsOf A/\u.pc[o+q*c.P.cellsOf A+i]?=J x:=by
  intro i x Q;rw[<-a9]at Q;simp only[V.pc,ZhV]at Q;split at Q;rename_i b4;rw[ZhM,ZhV,Zht Z0,ZhM]at Q;exact⟨b4,by rw[<-Q];congr 1;omega⟩;cases Q
 refine⟨_,?_,z,b,q0+(o+q*c.P.cellsOf A),λi=>vs<|o+q*c.P.cellsOf A+i,a3,rfl,a4,?_,?_,?_⟩;simp[Instr.indexAt,asIntOf,Zi6 N,hq,Ur K,hs,ZiX,Instr.sureAddr,Ziw];intro x Q;let⟨i,K⟩:=ZhI Q;exact a6 x<|Zhq (Z i x K).2;intro i K;have:=Z i _<|Zhi K;rw[Ziw];exact a0 _ (Zhj.1 this.2).1;intro i x Q;exact S _ x (Z i x Q).2;simp at r;simp at r
theorem Bx{x z}(h:YU x=J z):z.one=xk:=(Ss h).2
def Mg{f x k v z}(h:Ti f x k v=J z):∃id g vs a d,x=.mp id g vs/\z=.mp id a d:=by
 unfold Ti at h;grind
theorem yk:∀e x,e.dc=xk->eval s e=J x->x.one=xk
 |.c v,x,h,g=>by simp[eval,Zhh]at g;subst g;exact h
 | .m t i,x,_,g=>by
   simp[eval]at g;split at g;rw[Zhg]at g;let⟨y,_,f⟩:=g;exact Bx f
   grind
 | .bo op a b,x,_,g=>by
   simp[eval,Zhg]at g;let⟨y,_,z,_,f⟩:=g;cases y<;>cases z<;>cases op<;>simp only[Xd]at f<;>(try split at f)<;>(try simp[Zhh]at f)<;>(try subst f)<;>first|rfl|simp at f
 | .fj n a b,x,_,g=>by
   simp[eval,Zhg]at g;let⟨y,_,z,_,f⟩:=g;cases y<;>cases z<;>simp[R7]at f<;>(try simp[Zhh]at f)<;>(try subst f)<;>first|rfl|simp at f
 | .un op a,x,_,g=>by
   simp[eval,Zhg]at g;let⟨y,_,f⟩:=g;cases y<;>cases op<;>simp[SM]at f<;>(try simp[Zhh]at f)<;>(try subst f)<;>first|rfl|simp at f
 | .conv k a,x,_,g=>by
   simp[eval,Zhg]at g;let⟨y,_,f⟩:=g;cases y<;>simp[J7]at f<;>(try simp[Zhh]at f)<;>(try subst f)<;>first|rfl|simp at f
 | .len a,x,_,g=>by
   simp[eval,Zhg]at g;let⟨y,_,f⟩:=g;cases y<;>simp[Qs]at f<;>(try simp[Zhh]at f)<;>(try subst f)<;>first|rfl|simp at f
 | .mn a b,x,_,g=>by
   simp[eval,Zhg]at g;let⟨y,_,z,_,f⟩:=g;cases y<;>cases z<;>simp[Qx]at f<;>(try simp[Zhh]at f)<;>(try subst f)<;>first|rfl|simp at f
 | .mx a b,x,_,g=>by
   simp[eval,Zhg]at g;let⟨y,_,z,_,f⟩:=g;cases y<;>cases z<;>simp[Qw]at f<;>(try simp[Zhh]at f)<;>(try subst f)<;>first|rfl|simp at f
 | .dg r a k v,x,_,g=>by
   simp[eval,Zhg]at g;let⟨y,_,z,_,u,_,f⟩:=g;obtain⟨_,_,_,_,_,_,rfl⟩:=Mg f;rfl
 | .dz a,x,_,g=>by
   simp[eval,Zhg]at g;let⟨y,_,f⟩:=g;cases y<;>simp[Ri]at f<;>(try simp[Zhh]at f)<;>(try subst f)<;>first|rfl|simp at f
 | .fe a,x,_,g=>by
   simp[eval,Zhg]at g;let⟨y,_,f⟩:=g;cases y<;>simp[L7]at f<;>(try simp[Zhh]at f)<;>(try subst f)<;>first|rfl|simp at f
 | .ae a o,x,_,g=>by
   simp[eval,Zhg,Y0]at g;grind [Bx]
 | .gz a j p k,x,_,g=>by
   simp[eval,Zhg]at g;let⟨y,_,z,_,u,_,f⟩:=g;unfold RF at f;split at f;split at f;simp[Zhh]at f;subst f;rfl;grind;grind
 | .fg a j k,x,_,g=>by
   simp[eval,Zhg]at g;let⟨y,_,z,_,f⟩:=g;unfold QP at f;split at f;split at f;simp[Zhh]at f;subst f;rfl;grind;grind
 | .app a b k,x,_,g=>by
   simp[eval,Zhg]at g;let⟨y,_,z,_,f⟩:=g;unfold RZ at f;split at f;split at f;simp[Zhh]at f;subst f;rfl;grind;grind
 | .upd a i o b,x,_,g=>by
   simp[eval,Zhg]at g;let⟨y,_,z,_,u,_,f⟩:=g;unfold RL at f;split at f;split at f;rw[Zhg]at f;let⟨q,_,f⟩:=f;split at f;simp[Zhh]at f;subst f;rfl;grind;grind;grind
 | .mk z n,x,_,g=>by
   simp[eval,Zhg]at g;let⟨y,_,f⟩:=g;unfold L9 at f;split at f;split at f;simp[Zhh]at f;subst f;rfl;grind;grind
 | .lit l,x,_,g=>by
   simp[eval,Zhk]at g;let⟨y,_,f⟩:=g;subst f;rfl
 | .one a,x,_,g=>by
   grind [eval,Option.bind_eq_some_iff,Bx]
 | .ite d a b,x,h,g=>by
   simp[E.dc,Zhl]at h;simp[eval,Zhg]at g;let⟨y,_,f⟩:=g;unfold Js at f;split at f;exact yk a x h.1 f;exact yk b x h.2 f;grind
 |.s t,x,h,g=>ZgF
 |.mm t i n,x,h,g=>ZgF
 |.ext a i,x,h,g=>ZgF
 |.az a i k,x,h,g=>ZgF
 |.bb a o n,x,h,g=>ZgF
 |.ai a i n k ag,x,h,g=>ZgF
 |.df a i n k b,x,h,g=>ZgF
 |.ag l,x,h,g=>ZgF
 |.aq a,x,h,g=>ZgF
 |.bm a,x,h,g=>ZgF
 |.sz a n,x,h,g=>ZgF
 |.fl a,x,h,g=>ZgF
 |.iy a,x,h,g=>ZgF
end
end Vm
namespace Vm
open Go
open Go.RowKit (Below)
section
variable {c:Ctx}{B:Nat}{G:Nat->Prop}{s:St}{a:Act}{w:World}{h:GH}{g:Gam}{C:ZF}
theorem MG{e x}(hx:eval s (qD e)=J x):eval s e=J x/\x.one=xk:=by
 unfold qD at hx;split at hx;grind [yk];simp[eval,Zhg]at hx;let⟨y,f,a⟩:=hx;obtain⟨rfl,d⟩:=Ss a;simp_all
theorem PQ{x z n}(a:VL x n=J z):x=z/\I z.cells=n/\∀l,z≠.am l:=by
 unfold VL at a;split at a
 .rename_i d;cases x<;>simp at a<;>first|(subst a;exact⟨rfl,d,Z1⟩)|(simp at a;done)
 grind
theorem MH{x:V}(h:x.one=xk):∀l,x≠.am l:=by
 grind [V.one]
theorem TV{x:V}(h:x.one=xk):x.cells=[x]:=by
 cases x<;>first|rfl|simp[V.one]at h
theorem Zb2{e n x}(hx:eval s (DU e n)=J x):eval s e=J x/\I x.cells=n/\∀l,x≠.am l:=by
 unfold DU at hx;split at hx
 .rename_i a;refine⟨hx,?_⟩;cases e<;>simp[E.rf,Zia,Zhl]at a<;>first|(cases a;done)|skip
  grind [eval,Option.some.injEq,V.cells];subst a;simp[eval,Zhg]at hx;let⟨y,_,d⟩:=hx;obtain⟨f,rfl⟩:=yt d;grind [V.cells];rename_i l;let⟨u,k⟩:=a;simp[eval,Zhk]at hx;obtain⟨t,g,rfl⟩:=hx;let⟨f,j⟩:=T7 g;have p:∀y∈t,y.one=xk:=by
   intro y d;let⟨i,o⟩:=ZhI d;have r:i<I l:=by have:=(Zhj.1 o).1;omega
   let⟨z,q,h⟩:=j i l[i] Z1;rw[o]at q;cases q;exact yk _ _ Zgm h
  simp_all[S7,V.cells,Uh];grind [eval,Option.bind_eq_some_iff,PQ]
 simp[eval,Zhg]at hx;let⟨y,d,f⟩:=hx;obtain⟨rfl,j⟩:=PQ f;simp_all
theorem jP{ag n e x}(hx:eval s (Vf ag n e)=J x):eval s e=J x/\(∀l,x≠.am l)/\(ag=xk->I x.cells=n)/\(ag=xw->x.one=xk):=by
 grind [Vf,Zb2,MG,MH]
def Dp{P T}(j:(P.underlying T).isSome=xk)(f:P.cellsOf T≠0){vs o}(p:o+P.cellsOf T<=vs.size):
  (part T vs o).run P w=.ok (if Y9 P T then .agg (vs.extract o<|o+P.cellsOf T)else vs.getD o xy) w:=by
 let⟨i,l,t⟩:=Br f;have a:X5 P T=xk:=by simp[X5,j,l]
 let⟨d,u,r,n,q,g⟩:=Un a;have h:o<vs.size:=Z0;cases k:Y9 P T with
 |true=>simp_all[part,Ur]
 |false=>simp_all[part,Zhn]
def Rd.part{G'}{cs:List V}{vs:Array Value}(g:vs.size=I cs)(h2:∀c∈cs,c.one=xk)(h:∀i c,cs[i]?=J c->Rd w G' c (vs.getD i xy)){o n}(f:o+n<=I cs):
  Rd w G' (.agg<|(cs.drop o).take n) (.agg<|vs.extract o<|o+n):=by
 refine .agg _ _ Zgn Zgl λi y a=> ?_;rw[ZhV]at a;split at a;rename_i d;have j:(vs.extract o<|o+n).getD i xy=vs.getD (o+i) xy:=by
  simp[Zld];rw[Zht Z0]
 simp_all;grind
def Iv{x z}(a:Qn x=J z):∃d,x=.agg d/\z=.agg d:=by
 unfold Qn at a;split at a;simp at a;exact⟨_,rfl,a.symm⟩;grind
def Z85(hr:RelG c B G s a w h g)(X:holds s<|ZI c C){T x f k es}(n:CQ c g C T x f=J (k,es))(N:∀e∈es,∃z,eval s e=J z)d:
  Has c B s w h (λp=>a.tmps[p]?) d k (Instr.field T (a.eval x) f):=by
 unfold CQ at n;simp only[Zhg]at n;let⟨y,hf,n⟩:=n;split at n;grind;rename_i S;simp only[Zhk,Zhx]at n;obtain⟨⟨e,sh⟩,Z,rfl,rfl⟩:=n;obtain⟨fs,D,hu,a0,H,rfl⟩:=GL hf;let⟨u,A,r⟩:=V1 hr X Z;let⟨z,j⟩:=N _<|List.Mem.head _;generalize a.eval x=v at r;let⟨i,hi,hs⟩:=Br S;have t:(c.P.underlying D.type).isSome=xk:=by simp[X5,Zhl]at H;exact H.1
 cases F:Y9 c.P D.type with
 |true=>
  rw[F]at j;simp[eval,A,Zhu,Zhg]at j;let⟨q,O,j⟩:=j;obtain⟨W,rfl,rfl⟩:=Iv O;obtain⟨l,rfl⟩:=yt j;cases r with
  |agg _ vs L Q M=>
   refine⟨.agg _,?_,.agg _,?_,Rd.part L Q M l⟩;have:=Dp (w:=w) (P:=c.P) t S (vs:=vs) (o:=D.offset) (by rw[L];exact l);simp_all[Instr.field,Zi6,asAgg];simp only[Zig,eval,A,Zhu,Qn,UC];rw[Zht l];rfl
 |false=>
  rw[F]at j;simp[ZhF,eval,A,Zhu,Zhg]at j;let⟨q,O,j⟩:=j;obtain⟨W,rfl,rfl⟩:=Iv O;have K:=H1 j;cases r with
  |agg _ vs L Q M=>
   have a2:D.offset<vs.size:=by rw[L];exact(Zhj.1 K).1
   refine⟨vs.getD D.offset xy,?_,z,?_,M _ _ K⟩;let⟨d',i',Y,a1,a3,R⟩:=Un (P:=c.P) (T:=D.type) Z0;simp_all[Instr.field,Zi6,asAgg,part,Zhn];simp_all[ZhF,eval,Zhu,Qn]
def Z87(Y:RelG c B G s a w h g)(S:holds s<|ZI c C){T x i k es}(F:CR c g C T x i=J (k,es))(L:∀e∈es,∃z,eval s e=J z)d:
  Has c B s w h (λp=>a.tmps[p]?) d k (Instr.index T (a.eval x)<|a.eval i):=by
 unfold CR at F;split at F;rename_i n t hT;have A:=DV hT;split at F;grind;rename_i l;simp at l;simp only[Zhg,Zhk,Zhx]at F;obtain⟨⟨e,sh⟩,he,⟨j,sj⟩,hj,rfl,rfl⟩:=F;let⟨u,hu,H⟩:=V1 Y S he;let⟨y,hy,N⟩:=V1 Y S hj;let⟨z,O⟩:=L _<|List.Mem.head _;have K:=O;simp[eval,hu,hy,Zhu]at O;obtain⟨cs,ki,q,rfl,rfl,M,X,f⟩:=zL O;rw[N.int_eq];generalize a.eval x=v at H;let⟨dd,info,hd,W,Z,r⟩:=Un l;have a0:q*c.P.cellsOf t+c.P.cellsOf t<=n*c.P.cellsOf t:=by
  rw[<-ZiG];exact Zi1 _ M
 cases H with
 |agg _ vs Q h2 R=>
  cases o:Y9 c.P t with
  |false=>
   rw[o]at f K;have D:q*c.P.cellsOf t<vs.size:=by rw[Q];exact(Zhj.1 f).1
   rw[Z]at D f;refine⟨vs.getD _ xy,?_,z,Z0,R _ _ f⟩;simp[Instr.index,asIntOf,Zi6 A,M,Ur W,part,r,o,D,Zhn]
  |true=>
   rw[o]at f K;simp at f;subst f;refine⟨.agg _,?_,_,Z0,Rd.part Q h2 R Z0⟩;rw[Z];simp[Instr.index,asIntOf,Zi6 A,M,Ur W,part,r,o]
 grind
def Pv{k l}(a:Xv k l=xk):∀x∈l,I x.cells=k:=λx d=>by
 have:=Zhw.1 a x d;simp_all
def Z3D{P:Program}{T a}(h:P.underlying T=J (.slice a)):P.elem T=a:=by
 simp[Program.elem,h]
def Rd.sliced{G' l o len cap}(hx:Rd w G' (.sl l)<|.slice o len cap){k p q}(D:Xv k l=xk)(F:p<=q)(y:q<=I l):
  q<=cap/\len=I l/\Rd w G' (.sl<|(l.take q).drop p) (sliced o p q cap k):=by
 cases hx with
 |nil _ _ C=>
  simp at y;subst y;have u:p=0:=Z0;subst u;exact⟨Z0,rfl,by simp;exact .nil _ _ C⟩
 |sl _ b o _ a vs G H z j A B=>
  refine⟨Z0,rfl,?_⟩;unfold Go.sliced;by_cases h:p=q;subst h;have:(l.take p).drop p=[]:=by
   rw[Zkn];simp;omega
  rw[this,Zjg];exact .nil _ _ Z0;have t:cap≠p:=Z0;have r:∃x,l[p]?=J x:=⟨_,Zhi Z0⟩;let⟨x,hx⟩:=r;have n:a=k:=by rw[<-(j x<|Zhq hx).1,Pv D x<|Zhq hx]
  subst n;have d:I ((l.take q).drop p)=q-p:=Zgn;simp[Zhs t,ZhL,ZiX];rw[<-d];have f:Vm.flat ((l.take q).drop p)=((Vm.flat l).take<|q*a).drop (p*a):=by
   rw[Z3Y (k:=a) (λx hx=>j x<|Zio hx),Z41 j]
  refine .sl _ b _ _ a (λi=>vs<|p*a+i) Z0 Z0 z Zgl (λi g=> ?_) λi c g=> ?_;rw[Ziw];refine A _ ?_;have:(q-p)*a+p*a<=I l*a:=by rw[<-Nat.add_mul];exact Zi1 _ Z0
  rw[d]at g;omega;rw[f,ZhM,ZhV]at g;split at g;exact B _ _ g;simp at g
def Z9V{T}(j:c.P.underlying T=J (.slice<|c.P.elem T)){v f a g d k}:
  Has c B s w h g d k (Instr.sliceAt T v f a U)=Has c B s w h g d k (Instr.slice T v f a U):=by
 simp_all[Has,run_sliceAt_slice]
theorem js{P T}(a:X5 P T=xk)w:(Go.sizeOf T).run P w=.ok (P.cellsOf T) w:=by
 grind [Un,Ur]
def Zaw{k x y z u}(a:RF k x y z=J u):∃l f g p q,x=.sl l/\y=.int f (p:Nat)/\z=.int g (q:Nat)/\p<=q/\q<=I l/\Xv k l=xk/\u=.sl ((l.take q).drop p):=by
 unfold RF at a;split at a;rename_i l f p g q;split at a;rename_i j;let⟨d,h,n,o⟩:=j;obtain⟨p,rfl⟩:=Zhy d;obtain⟨q,rfl⟩:=Zhy<|Int.le_trans d h;grind;grind;grind
def Zax{k x y u}(a:QP k x y=J u):∃l d p,x=.sl l/\y=.int d (p:Nat)/\p<=I l/\Xv k l=xk/\u=.sl (l.drop p):=by
 unfold QP at a;split at a;rename_i l d p;split at a;rename_i h;let⟨f,j,g⟩:=h;obtain⟨p,rfl⟩:=Zhy f;simp at a;exact⟨l,d,p,rfl,rfl,Z0,g,a.symm⟩;grind;grind
def Rd.rh{G' l v}(hx:Rd w G' (.sl l) v):∃o len cap,v=.slice o len cap:=by
 cases hx<;>exact⟨_,_,_,rfl⟩
def Z8j(S:RelG c B G s a w h g)(R:holds s<|ZI c C){T x W Z k es}(O:D2 c g C T x W Z=J (k,es))(Y:∀e∈es,∃z,eval s e=J z)d:
  Has c B s w h (λp=>a.tmps[p]?) d k (Instr.sliceAt T (a.eval x) (W.map a.eval) (Z.map a.eval) U):=by
 unfold D2 at O;split at O;rename_i el hT;have M:=K0 hT;have X:c.P.underlying T=J (.slice<|c.P.elem T):=by rw[Z3D M];exact M
 split at O;rename_i a5;simp only[Zhg,Zhk,Zhx]at O;obtain⟨⟨e,sh⟩,he,l,D,e',A,rfl,rfl⟩:=O;let⟨u,hu,n⟩:=V1 S R he;let⟨z,y⟩:=Y _<|List.Mem.head _;rw[Z9V X];generalize a.eval x=v at n;cases Z with
 |some hh=>
  simp only[Cj,Zhk]at A;obtain⟨⟨f,sf⟩,hf,rfl⟩:=A;let⟨y2,a2,Q⟩:=V1 S R hf;have L:=y;simp[eval,hu,a2,Zhu,Zhg]at y;let⟨y1,r,y⟩:=y;obtain⟨ll,ka,kb,p,q,rfl,rfl,rfl,a0,hq,K,rfl⟩:=Zaw y;obtain⟨o,len,cap,rfl⟩:=n.rh;let⟨a1,N,j⟩:=n.sliced K a0 hq;refine⟨_,?_,_,L,j⟩;cases W with
  |some a3=>
   simp only[Lm,Zhk]at D;obtain⟨⟨f1,a4⟩,F,rfl⟩:=D;let⟨y3,t,H⟩:=V1 S R F;rw[r]at t;cases t;simp;rw[Q.int_eq,H.int_eq];simp_all[run_slice_lh,js,Result.andThen]
  |none=>
   simp[Lm,Zhh]at D;subst D;simp[eval,Zhh,V.int.injEq]at r;have a6:p=0:=Z0;simp;rw[Q.int_eq];grind [run_slice_h,js,Result.andThen]
 |none=>
  simp[Cj,Zhh]at A;subst A;have L:=y;simp[eval,hu,Zhu,Zhg]at y;let⟨y1,r,y⟩:=y;obtain⟨ll,ka,p,rfl,rfl,hq,K,rfl⟩:=Zax y;obtain⟨o,len,cap,rfl⟩:=n.rh;let⟨a1,N,j⟩:=n.sliced K hq Z0;rw[Zj9]at j;refine⟨_,?_,_,L,j⟩;cases W with
  |some a3=>
   simp only[Lm,Zhk]at D;obtain⟨⟨f1,a4⟩,F,rfl⟩:=D;let⟨y3,t,H⟩:=V1 S R F;rw[r]at t;cases t;simp;rw[H.int_eq];simp_all[run_slice_l,js,Result.andThen]
  |none=>
   simp[Lm,Zhh]at D;subst D;simp[eval,Zhh,V.int.injEq]at r;grind [run_slice_all,js,Result.andThen]
 grind;grind
end
end Vm
namespace Vm
open Go
open Go.RowKit (Below)
def GH.fb(h:GH)(d i n:Nat):GH:= {F:=h.F,bl:=λt j=>if t=d then(if j=i then J n else U)else h.bl t j,K:=h.K}
def GH.sq(h:GH)(n:Nat):GH:= {F:=λb=>h.F b\/b=n,bl:=h.bl,K:=h.K}
section
variable {c:Ctx}{B:Nat}{G:Nat->Prop}{s:St}{a:Act}{w w':World}{h:GH}{g:Gam}{C:ZF}
def J2(a:Ok B G w h)(d:w.grownBy w' U):=(ZhH B w).grown d a.base λk f=>by cases f
def jM(a:Ok B G w h)(l:w.grownBy w' U)d i{n}(z:xz (xj w)<=n)(o:n<xz (xj w')):
  Ok B G w' (h.fb d i n)/\Step B [d] [d] [] w w' h (h.fb d i n):=by
 have k:=l.size
 refine⟨⟨ZhU a.base k,λb f=>Zhr (a.bn b f) k,a.cr,a.fh,λt j b f=> ?_,λt j u q b f g=> ?_,λb f=>Zhr (a.cp b f) k,λt j b f p=> ?_,a.fi⟩,
  J2 a l,λb f _=>l.block b f Z1,λb f=>f,λt A _=> ?_,λt A=> ?_,Z1,rfl⟩
 simp[GH.fb]at f;split at f;split at f;simp at f;subst f;exact⟨ZhU a.base z,o,λy=>by have:=a.bn _ y;omega⟩;cases f;let⟨r,C,x⟩:=a.an t j b f;exact⟨r,Z0,x⟩
 .simp[GH.fb]at f g;split at f<;>split at g;simp_all
  .split at f<;>first|(cases f;done)|skip
   simp at f;have:=(a.an u q b g).2.1;omega
  .split at g<;>first|(cases g;done)|skip
   simp at g;have:=(a.an t j b f).2.1;omega
  exact a.inj t j u q b f g
 simp[GH.fb]at f;split at f;split at f;simp at f;have:=a.cp _ p;omega;cases f;exact a.cj t j b f p;simp_all[GH.fb];simp_all[GH.fb]
def ZaZ(a:Ok B G w h)(k:w.grownBy w' U)ps rb{n}(q:xz (xj w)<=n)(r:n<xz (xj w')):
  Ok B G w' (h.sq n)/\Step B ps rb [] w w' h (h.sq n):=by
 have f:=k.size
 refine⟨⟨ZhU a.base f,λb d=> ?_,λb d=> ?_,λb d=>.inl<|a.fh b d,λt j b d=> ?_,a.inj,λb d=>Zhr (a.cp b d) f,a.cj,λb d=> ?_⟩,
  J2 a k,λb d _=>k.block b d Z1,λb d=>.inl d,λt u _=>rfl,λt u=>rfl,Z1,rfl⟩
 obtain d|rfl:=d;exact Zhr (a.bn b d) f;omega;obtain d|rfl:=d;exact a.cr b d;exact .inr<|ZhU a.base q;let⟨l,x,o⟩:=a.an t j b d;refine⟨l,Z0,λg=> ?_⟩;obtain g|rfl:=g;exact o g;omega;obtain d|rfl:=d;exact a.fi b d;exact .inr λp=>by have:=a.cp _ p;omega
def Dt(f:Ok B G w h)(a:w.grownBy w' U){G'}(d:∀b,G' b->b<xz (xj w)):Same G' w w':=λb g=>a.block b Zgm Z1
def Z3L(a:Ok B G w h)sh:∀b,h.ext sh b->b<xz (xj w):=by
 intro b d;obtain d|⟨p,_,i,f⟩:=d;exact a.bn b d;exact(a.an p _ b f).2.1
def BR{α β:Type}{f}:∀ {l:List α} {r:List β},l.mapM f=J r->I r=I l/\∀(i:Nat) v,l[i]?=J v->∃x,r[i]?=J x/\f v=J x
 | [],r,a=>by
   simp at a;subst a;exact⟨rfl,Z1⟩
 |y::l,r,a=>by
  simp[Zhg,Zhh]at a;obtain⟨x,k,n,g,rfl⟩:=a;let⟨h,j⟩:=BR g;refine⟨by simp[h],λi v d=> ?_⟩;cases i with
  |zero=>simp at d;subst d;exact⟨x,Z1,k⟩
  |succ i=>simpa using j i v Zgz
def Em{P T d}(a:zeroCells P T=J d):∃i z,P.info? T=J i/\i.zero=J z/\z.cells.size=I d/\∀(j:Nat) v,z.cells[j]?=J v->∃x,d[j]?=J x/\Vi v=J x:=by
 unfold zeroCells at a;simp[Zhg]at a;let⟨z,⟨i,l,g⟩,f⟩:=a;let⟨h,k⟩:=BR f;simp_all
def jt{P T i z}(a:P.info? T=J i)(d:i.zero=J z)w:(zeroValue T).run P w=.ok z w:=by
 simp[zeroValue,typeInfo,a,d]
def Do{P T}v w:(newVar T v).run P w=.ok ⟨xz<|xj w,0,U⟩ (w.alloc<|.cells v.cells T):=by
 rfl
def ZbP(x:V):CK:=match x with|.sl _=>CK.nil|_=>.fz
def ZbU{P o v x}(a:Vi v=J x):RelC P B s w h o (ZbP x) (.c x) v:=by
 unfold Vi at a;split at a<;>first
  |(simp at a;subst a;first|exact⟨_,rfl,rfl,.int _ _⟩|exact⟨_,rfl,rfl,.bool _⟩|exact⟨_,rfl,rfl,.str _⟩|exact⟨rfl,rfl⟩|exact⟨_,rfl,rfl,.lw⟩|exact⟨_,rfl,rfl,.ib⟩|exact⟨_,rfl,rfl,.ic⟩)
  | (split at a<;>first
    | (rename_i d
       simp at a;subst a;rw[Zip d.1,Zip d.2];exact⟨_,rfl,rfl,.fn _⟩)
    |simp at a)
  |simp at a
def Z7Y(p:Ok B G w h){T k es}(f:CI c T=J (k,es))H d:
  ∃v w',(Instr.alloc T xk<|.tuple #[]).run c.P w=.ok v w'/\PRes c B G s w h H d k v w':=by
 unfold CI at f;simp only[Zhg]at f;let⟨M,F,f⟩:=f;split at f;grind;simp at f;obtain⟨rfl,rfl⟩:=f;let⟨i,z,D,t,r,a⟩:=Em F;have C:=ZiH w (.cells z.cells T) U;let⟨g,q⟩:=jM p C d 0 (n:=xz<|xj w) Z0 Z1;refine⟨.pointer<|J ⟨xz<|xj w,0,U⟩,_,?_,_,q,g,?_⟩;simp[Instr.alloc,jt D t,Do];refine⟨xz<|xj w,z.cells,T,by simp[GH.fb],rfl,ZhT w _,Zgm,λj K u=> ?_⟩;simp at u;obtain⟨x,y,rfl⟩:=u;have o:j<z.cells.size:=by rw[r];exact(Zhj.1 y).1
 let⟨L,l,A⟩:=a j z.cells[j] Z1;rw[y]at l;cases l;have:z.cells.getD j xy=z.cells[j]:=by simp[o]
 rw[this];exact ZbU A
def Z82(O:RelG c B G s a w h g)(hC:holds s<|ZI c C){T x k es}(l:CN c g C T x=J (k,es))(t:∀e∈es,∃z,eval s e=J z)tm d:
  ∃v w',(Instr.box T<|a.eval x).run c.P w=.ok v w'/\PRes c B G s w h tm d k v w':=by
 unfold CN at l;split at l;rename_i e0 hk;split at l;rename_i a0;let⟨y,hy,L⟩:=QC O hC hk;have hg:=ZiH w (.cells (a.eval x).cells T) U;let⟨K,Z⟩:=jM O.ok hg d 0 (n:=xz<|xj w) Z0 Z1;have hF:=Dt O.ok hg O.ok.bn;refine⟨.pointer _,_,Zhb,_,Z,K,?_⟩;generalize a.eval x=v at*;split at l;rename_i o;simp[o,Zhh,Zhx]at l;obtain⟨rfl,rfl⟩:=l;let⟨z,Q⟩:=t _<|List.Mem.head _;let⟨q,S,N,_⟩:=jP Q;rw[hy]at q;cases q;let⟨M,Y,f⟩:=L.cells S;refine⟨xz<|xj w,v.cells,T,by simp[GH.fb],rfl,ZhT w _,Zgm,λj ck p=> ?_⟩;simp at p;obtain⟨R,A,rfl⟩:=p;have D:j<c.P.cellsOf T:=by simpa using(Zhj.1 A).1
 have X:R=j:=by simpa[D]using A.symm
 subst X;have H:R<I y.cells:=by rw[N rfl];exact D
 have u:=Zhi H;refine⟨y.cells[R],?_,Zgm,(f R _ u).F.keep hF λb W=>W⟩;have a1:y.pc=y.cells:=by cases y<;>first|rfl|exact absurd rfl _
 simp_all[eval,Zhu,Y0,YU,ZhE];rename_i o;have r:Y9 c.P T=xw:=by simpa using o
 simp[r,Zhh,Zhx]at l;obtain⟨rfl,rfl⟩:=l;let⟨z,Q⟩:=t _<|List.Mem.head _;let⟨q,S,_,N⟩:=jP Q;rw[hy]at q;cases q;let⟨M,Y,f⟩:=L.cells S;rw[TV<|N rfl]at M f;refine⟨xz<|xj w,v.cells,T,by simp[GH.fb],rfl,ZhT w _,Z0,λj ck p=> ?_⟩;cases j with
 |zero=>
  simp at p;subst p;exact⟨y,Q,N rfl,(f 0 y rfl).F.keep hF λb W=>W⟩
 |succ j=>simp at p
 grind;grind
def Pm off:∀(l:List<|Value×Nat) (a:Array Value) m,(∀i q,l[i]?=J q->q.2=m+i)->off+m+I l<=a.size->
  (l.foldl (λa (c,j)=>a.setIfInBounds (off+j) c) a).size=a.size/\
  (∀x,x<off+m\/off+m+I l<=x->(l.foldl (λa (c,j)=>a.setIfInBounds (off+j) c) a)[x]?=a[x]?)/\
  ∀i q,l[i]?=J q->(l.foldl (λa (c,j)=>a.setIfInBounds (off+j) c) a)[off+m+i]?=J q.1
 | [],a,m,_,_=>Z1
 | (v,j)::l,a,m,d,h=>by
   have r:=d 0 _ rfl;subst r;have g:∀i q,l[i]?=J q->q.2=(j+1)+i:=λi q f=>by
    have:=d (i+1) q Zgl;omega
   simp at h;let⟨o,k,p⟩:=Pm off l (a.setIfInBounds (off+j) v) _ g Zgn;simp only[Zjj];refine⟨by rw[o];simp,λx n=> ?_,λi q f=> ?_⟩;rw[k x (by simp at n;omega),Zif (by simp at n;omega)];cases i with
   |zero=>
    simp at f;subst f;rw[ZiZ,k _ Z0];have:off+j<a.size:=Z0;simp[this]
   |succ i=>
    have:=p i q Zgl;rw[show off+j+(i+1)=off+(j+1)+i from by omega];exact this
def Zab off(v:Value)(cs:Array Value)(k:off+v.cells.size<=cs.size):
  (v.cells.zipIdx.foldl (λcs (c,j)=>cs.setIfInBounds (off+j) c) cs).size=cs.size/\
  (∀x,x<off\/off+v.cells.size<=x->(v.cells.zipIdx.foldl (λcs (c,j)=>cs.setIfInBounds (off+j) c) cs)[x]?=cs[x]?)/\
  ∀i,i<v.cells.size->(v.cells.zipIdx.foldl (λcs (c,j)=>cs.setIfInBounds (off+j) c) cs)[off+i]?=v.cells[i]? :=by
 have p:∀i q,v.cells.zipIdx.toList[i]?=J q->v.cells[i]?=J q.1/\q.2=0+i:=by
  intro i q d;rw[ZiF,Array.getElem?_zipIdx,Zhk]at d;obtain⟨u,n,rfl⟩:=d;exact⟨n,Z0⟩
 have a:I v.cells.zipIdx.toList=v.cells.size:=Z1;rw[<-ZjP];let⟨f,g,h⟩:=Pm off v.cells.zipIdx.toList cs 0 Z1 (by rw[a];omega);refine⟨f,λx o=>g x (by rw[a];omega),λi d=> ?_⟩;have l:v.cells.zipIdx.toList[i]?=J (v.cells[i],0+i):=by
  rw[ZiF];simp
 have:=h i _ l;rw[ZiZ]at this;rw[this];simp
def AL place:∀parts a,(∀p∈parts,∃off,place p.1=J (off,p.2.cells.size)/\off+p.2.cells.size<=a.size)->
  ∃R,Instr.fill place a parts=J R/\R.size=a.size/\
   (∀x,(∀p∈parts,∀off n,place p.1=J (off,n)->x<off\/off+n<=x)->R[x]?=a[x]?)/\
   ∀pre p f,parts=pre++p::f->∀off,place p.1=J (off,p.2.cells.size)->(∀q∈f,∀o n,place q.1=J (o,n)->off+p.2.cells.size<=o\/o+n<=off)->∀j,j<p.2.cells.size->R[off+j]?=p.2.cells[j]?
 | [],a,_=>⟨a,rfl,rfl,Z1,Z1⟩
 | (i,v)::parts,a,g=>by
   let⟨off,d,h⟩:=g (i,v) Z1;simp only at d h;let⟨C,z,D⟩:=Zab off v a h;let⟨R,F,B,k,A⟩:=AL place parts (v.cells.zipIdx.foldl (λa (c,j)=>a.setIfInBounds (off+j) c) a) (λp l=>Zgm);refine⟨R,?_,Z0,λx u=> ?_,λpre p f l w r t j G=> ?_⟩;have:¬(off+v.cells.size>a.size):=Z0;simp[Instr.fill,d];grind;rw[k x λp l=>u p (by simp[l])];exact z x<|u (i,v) Z1 off _ d;obtain _|⟨y,pre⟩:=pre;grind;grind
end
end Vm
namespace Vm
open Go
open Go.RowKit (Below)
def X7:List (CK×E)->List Nat->Nat->Option Nat
 | [],_,_=>U
 |(.own _,_)::_,t::_,0=>J t
 |(.own _,_)::r,_::a,i+1=>X7 r a i
 |(.own _,_)::_,[],_=>U
 |_::_,_,0=>U
 |_::r,a,i+1=>X7 r a i
def XD:List (CK×E)->Nat
 | []=>0
 |(.own _,_)::r=>XD r+1
 |_::r=>XD r
theorem DH:∀ {l} {a g:List Nat} {r:List (CK×E)} {i:Nat},XD l=I a->i<I l->X7 (l++r) (a++g) i=X7 l a i
 | [],_,_,_,_,_,f=>by simp at f
 | (k,e)::l,a,g,r,i,d,f=>by
   cases k with
   |own h=>
    obtain _|⟨t,a⟩:=a;simp[XD]at d;simp[XD,ZiD,Zl7]at d;cases i with
    |zero=>rfl
    |succ i=>simpa[X7]using DH d Zgl
   |_=>
    simp[XD]at d;cases i with
    |zero=>rfl
    |succ i=>simpa[X7]using DH d Zgl
theorem DI:∀ {l} {a f:List Nat} {r:List (CK×E)} {i:Nat},XD l=I a->X7 (l++r) (a++f) (I l+i)=X7 r f i
 | [],a,f,r,i,d=>by
   grind [XD]
 | (k,e)::l,a,f,r,i,d=>by
   have g:(I l+1+i)=(I l+i)+1:=Z0;cases k with
   |own h=>
    obtain _|⟨t,a⟩:=a;simp[XD]at d;simp_all[XD,ZiD,Zl7,ZiC,X7,DI]
   |_=>
    simp[XD]at d;simp[g];exact DI d
theorem MX:∀l r,XD (l++r)=XD l+XD r
 | [],r=>by simp[XD]
 | (k,e)::l,r=>by
   cases k<;>simp[XD,MX l r]<;>omega
section
variable {c:Ctx}{B:Nat}{G:Nat->Prop}{s:St}{a:Act}{w w':World}{h:GH}{g:Gam}{C:ZF}
def BRel(c:Ctx)(B:Nat)(s:St)(a:Act)(w:World)(h:GH)(cs:List<|CK×E)(ts sh:List Nat)(i:Nat)(d:CK×E)(v:Value):Prop:=
 match d.1 with
 |.own f=>∃t,X7 cs ts i=J t/\t∈ts/\a.tmps[t]?=J v/\∃x,eval s d.2=J x/\OwnV c.P B w h (h.bl t 1) f x v
 |.nil=>v=.slice U 0 0/\eval s d.2=J (.sl [])
 |.fz=>∃x,eval s d.2=J x/\x.one=xk/\Rd w (h.ext sh) x v
 |.gc=>False
def ZbR{l}{z:Array Value}(F:∀(j:Nat) v,z[j]?=J v->∃x,l[j]?=J x/\Vi v=J x)(t:z.size=I l)o n:
  XD (zq l o n).1=0/\∀u D C i j p,(zq l o n).1[j]?=J p->BRel c B s a w h u D C i p (z.getD (o+j) xy):=by
 constructor;unfold zq;induction (List.take n _)with
 |nil=>rfl
 |cons x r G=>cases x<;>simp_all[XD]
 intro u D C i j p y;simp only[zq,ZhG,Zhk]at y;obtain⟨x,g,rfl⟩:=y;rw[ZhV]at g;split at g;rw[ZhM]at g;have q:o+j<z.size:=by rw[t];exact(Zhj.1 g).1
 let⟨H,k,d⟩:=F (o+j) z[o+j] Z1;rw[g]at k;cases k;have f:z.getD (o+j) xy=z[o+j]:=by simp[q]
 rw[f];generalize z[o+j]=v at d;unfold Vi at d;split at d<;>first
  |(simp at d;subst d;first|exact⟨_,rfl,rfl,.int _ _⟩|exact⟨_,rfl,rfl,.bool _⟩|exact⟨_,rfl,rfl,.str _⟩|exact⟨rfl,rfl⟩|exact⟨_,rfl,rfl,.lw⟩|exact⟨_,rfl,rfl,.ib⟩|exact⟨_,rfl,rfl,.ic⟩)
  | (split at d<;>first
    | (rename_i A
       simp at d;subst d;rw[Zip A.1,Zip A.2];exact⟨_,rfl,rfl,.fn _⟩)
    |simp at d)
  |simp at d
 grind
def Z43{e}{n j:Nat}{z}(a:eval s (.ae e j)=J z):∃y,eval s e=J y/\y.pc[j]?=J z/\z.one=xk:=by
 grind [eval,Option.bind_eq_some_iff,Y0,Ss]
def NY{x:V}(h:∀l,x≠.am l):x.pc=x.cells:=by
 rfl
def BD(o:RelG c B G s a w h g)(k:holds s<|ZI c C){x d}(hx:YE g C x=J d){ag fl n}(F:n≠0){z}
  (q:eval s (Vf ag n (XT fl d).1)=J z):
  (∀l,z≠.am l)/\(ag=xk->I z.cells=n)/\(ag=xw->z.one=xk)/\Rd w (h.ext (XT fl d).2) z (a.eval x):=by
 let⟨y,p,f⟩:=V1 o k (show YE g C x=J _ from hx);let⟨j,u,A,D⟩:=jP q;let⟨H,r,t⟩:=Qd (fl:=fl) (b:=d) p f ⟨z,j⟩;simp_all
def Z7R(T:RelG c B G s a w h g)(S:holds s<|ZI c C){n}(hn:n≠0){ag fl x}{b:BC}(A:CE g C n ag fl x=J b)(N:I b.1=n)
  (D:∀k∈b.1,∃z,eval s k.2=J z):
  XD b.1=I b.2.2/\(a.eval x).cells.size=n/\∀f,(∀t∈b.2.1,t∈f)->∀j k,b.1[j]?=J k->BRel c B s a w h b.1 b.2.2 f j k ((a.eval x).cells.getD j xy):=by
 have a4:∀ {b},((YE g C x).map λa0=>let a:=XT fl a0;let e:=Vf ag n a.1;(if ag then(List.range n).map λj=>(CK.fz,E.ae e j)else [(.fz,e)],a.2,[]))=J b->I b.1=n->(∀k∈b.1,∃z,eval s k.2=J z)->
   XD b.1=I b.2.2/\(a.eval x).cells.size=n/\∀f,(∀t∈b.2.1,t∈f)->∀j k,b.1[j]?=J k->BRel c B s a w h b.1 b.2.2 f j k ((a.eval x).cells.getD j xy):=by
  intro b H N D;simp only[Zhk]at H;obtain⟨R,W,rfl⟩:=H;have F:∀f,(∀t∈(XT fl R).2,t∈f)->∀b,h.ext (XT fl R).2 b->h.ext f b:=by
   intro f o b H;obtain H|⟨p,A,i,hi⟩:=H;exact .inl H;exact .inr ⟨p,o p A,i,hi⟩
  cases ag with
  |true=>
   have h0:=D (CK.fz,E.ae (Vf xk n (XT fl R).1) 0) Zgl;let⟨z0,a3⟩:=h0;let⟨y,K,_,_⟩:=Z43 (n:=n) a3;let⟨Y,h2,_,Z⟩:=BD T S W hn K;let⟨P,Q,u⟩:=Z.cells Y;refine⟨?_,Zgm,λf o j k d=> ?_⟩;generalize List.range n=l;induction l with
   |nil=>rfl
   |cons q r ih=>simp_all[XD]
   simp at d;obtain⟨X,M,rfl⟩:=d;have a2:j<n:=by simpa using(Zhj.1 M).1
   have a1:X=j:=by simpa[a2]using M.symm
   subst a1;have L:y.cells[X]?=J (y.cells[X]'Zgm):=Z1;refine⟨_,?_,Q _ Z1,(u X _ L).mono<|F f o⟩;simp_all[eval,Zhu,Y0,NY,YU,Zht,Zhq]
  |false=>
   let⟨y,K⟩:=D _<|Zim.2 rfl;have K:eval s (Vf xw n (XT fl R).1)=J y:=K;let⟨Y,_,h3,Z⟩:=BD T S W hn K;let⟨P,Q,u⟩:=Z.cells Y;rw[TV<|h3 rfl]at P u;refine⟨rfl,Zgm,λf o j k d=> ?_⟩;cases j with
   |zero=>
    simp at d;subst d;exact⟨y,K,h3 rfl,(u 0 y rfl).mono Zgm⟩
   |succ j=>simp at d
 unfold CE at A;split at A;rename_i t ty e hk;simp at A;subst A;let⟨v,hv,⟨x,W,ho⟩,_⟩:=T.look S (show look g C t=_ from hk) rfl;have O:v.cells=#[v]:=by
  obtain⟨l,xs,_,_,_,⟨_,hc⟩,_⟩|⟨_,_,_,_,_,_,_,rfl,_⟩:=ho;obtain⟨rfl,_⟩|⟨_,_,_,rfl,_⟩:=hc<;>rfl;rfl
 rw[Act.aj a t v hv,O];refine⟨rfl,Z0,λf o j k d=> ?_⟩;cases j with
 |zero=>
  simp at d;subst d;exact⟨t,rfl,Z1,by simpa using hv,x,W,by simpa using ho⟩
 |succ j=>simp at d
 rename_i hk;simp at A;subst A;rw[JI T S hk];refine⟨rfl,by grind [Value.cells],λf o j k d=> ?_⟩;cases j with
 |zero=>simp at d;subst d;exact⟨rfl,rfl⟩
 |succ j=>simp at d
 grind
def BRel.left{cs r ts f sh i d v}(g:BRel c B s a w h cs ts sh i d v)(k:XD cs=I ts)(j:i<I cs):BRel c B s a w h (cs++r) (ts++f) sh i d v:=by
 grind [BRel,DH]
theorem BRel.right{cs r ts f sh i d v}(g:BRel c B s a w h r f sh i d v)(j:XD cs=I ts):BRel c B s a w h (cs++r) (ts++f) sh (I cs+i) d v:=by
 grind [BRel,DI]
def G5(hr:RelG c B G s a w h g)(hC:holds s<|ZI c C){Q parts}{z:Array Value}(hz:∀(j:Nat) v,z[j]?=J v->∃x,Q[j]?=J x/\Vi v=J x)(P:z.size=I Q)sh:
  ∀D i o b,Kt g C Q parts D i o=J b->(∀d∈b.1,∃z,eval s d.2=J z)->(∀t∈b.2.1,t∈sh)->
   o+I b.1=I Q/\XD b.1=I b.2.2/\
   (∀q f,D[q]?=J f->o<=f.1/\f.1+f.2.1<=I Q/\(∀(L:Nat) y,D[L]?=J y->q<L->f.1+f.2.1<=y.1))/\
   (∀q f p,D[q]?=J f->parts.find? (λp=>p.1==i+q)=J p->(a.eval p.2).cells.size=f.2.1)/\
   ∀R:Array Value,(∀q f,D[q]?=J f->∀j,j<f.2.1->R.getD (f.1+j) xy=match parts.find? (λp=>p.1==i+q)with|some p=>(a.eval p.2).cells.getD j xy|none=>z.getD (f.1+j) xy)->
    ∀j d,b.1[j]?=J d->BRel c B s a w h b.1 b.2.2 sh j d (R.getD (o+j) xy)
 | [],i,o,b,l,_,_=>by
   simp only[Kt]at l;split at l;simp at l;subst l;exact⟨by simpa,rfl,Z1,Z1,Z1⟩;grind
 |f::D,i,o,b,l,N,Z=>by
  simp only[Kt,Zhg]at l;let⟨k,n,l⟩:=l;split at l;rename_i F;let⟨ho,X,hn⟩:=F;simp only[Zhk]at l;obtain⟨b2,S,rfl⟩:=l;simp only[ZhO]at N Z;let⟨h1,h2,h3,h4,h5⟩:=G5 hr hC hz P sh D _ _ b2 S Zgl Zgm
  have O:XD k.1=I k.2.2/\(∀p,parts.find? (λp=>p.1==i)=J p->(a.eval p.2).cells.size=f.2.1)/\
    ∀j d,k.1[j]?=J d->BRel c B s a w h k.1 k.2.2 sh j d (match parts.find? (λp=>p.1==i)with|some p=>(a.eval p.2).cells.getD j xy|none=>z.getD (f.1+j) xy):=by
   unfold NV at n;cases r:parts.find? (λp=>p.1==i)with
   |some p=>
    simp[r]at n;let⟨k1,k2,k3⟩:=Z7R hr hC hn n X λd T=>N d<|.inl T;grind
   |none=>
    simp[r,Zhh]at n;subst n;let⟨k1,k2⟩:=ZbR (c:=c) (B:=B) (s:=s) (a:=a) (w:=w) (h:=h) hz P f.1 f.2.1;exact⟨k1,Z1,λj d H=>k2 _ _ sh j j d H⟩
  let⟨f1,f2,f3⟩:=O;refine⟨Zgl,by grind [MX,List.length_append],λq y K=> ?_,λq y p K hp=> ?_,λR hR j d H=> ?_⟩;cases q with
  |zero=>
   simp at K;subst K;refine⟨Z0,Z0,λL y Y A=> ?_⟩;grind
  |succ q=>
   let⟨g1,g2,g3⟩:=h3 q y Zgl;refine⟨Z0,g2,λL a0 Y A=> ?_⟩;cases L with
   |zero=>omega
   |succ L=>grind
  cases q with
  |zero=>simp at K;subst K;exact f2 p (by simpa using hp)
  |succ q=>exact h4 q y p Zgl (by rw[show i+1+q=i+(q+1)from by omega];exact hp)
  by_cases A:j<I k.1;rw[ZhQ A]at H;have M:=hR 0 f rfl j Z0;rw[ho]at M;rw[M];have:=f3 j d H;rw[ho]at this;exact(this).left f1 A;rw[ZhJ Z0]at H
  have:=h5 R (λq y K j' W=>by
   have:=hR (q+1) y Zgl j' W;grind) _ d H
  have u:=this.right (cs:=k.1) (ts:=k.2.2) f1;rw[show I k.1+(j-I k.1)=j from by omega]at u;rw[show o+f.2.1+(j-I k.1)=o+j from by omega]at u;exact u;grind
def C9:∀ {l},Sq l=xk->l.Nodup
 | [],_=>Z1
 |x::l,a=>by
  simp[Sq,Zkk]at a;exact Zj4.2 ⟨a.1,C9 a.2⟩
def GV{β:Type}:∀ {l:List (Nat×β)} {p:Nat×β},(l.map (·.1)).Nodup->p∈l->l.find? (λq=>q.1==p.1)=J p
 | [],p,_,a=>by simp at a
 |q::l,p,f,a=>by
  simp[Zj4]at f;obtain rfl|a:=ZhK.1 a;simp;have d:q.1≠p.1:=Zgl;rw[List.find?_cons_of_neg Zgz];exact GV f.2 a
def M2{α β:Type}{f}{g:α->β}:∀(l:List α),(∀x∈l,f x=J (g x))->l.mapM f=J (l.map g)
 | [],_=>rfl
 |x::l,a=>by
  simp_all[Zku,M2]
def Z4h{β:Type}{n q f}{x:β}(h:((List.range n).map f)[q]?=J x):q<n/\x=f q:=by
 grind
def P4(hr:RelG c B G s a w h g)(hC:holds s<|ZI c C){T fs}(Y:qS c.P T=J fs){zs}(hz:zeroCells c.P T=J zs){parts:Array (Nat×Operand)}{b}
  (hb:zS g C zs parts.toList fs=J b) (b0:∀ck∈b.1,∃z,eval s ck.2=J z):
  ∃vs,(Instr.build T<|parts.map λ(i,x)=>(i,a.eval x)).run c.P w=.ok (.agg vs) w/\vs.size=I b.1/\XD b.1=I b.2.2/\
   ∀j ck,b.1[j]?=J ck->BRel c B s a w h b.1 b.2.2 b.2.1 j ck (vs.getD j xy):=by
 unfold zS at hb;split at hb;rename_i H;simp only[Zhl,Zhw,ZhS]at H;let⟨y,b4⟩:=H;have y:=C9 y;let⟨i,z,hi,a8,a3,N⟩:=Em hz
 obtain⟨place,k,F⟩:∃place,(∀q f,fs[q]?=J f->place q=J (f.1,f.2.1))/\
   ∀ps R,Instr.fill place z.cells ps=J R->c.P.built T ps=J R:=by
  unfold qS at Y;split at Y;rename_i b7 a4;cases Y;obtain⟨W,hu,a0,rfl⟩:=PR a4;have b5:W.toList.mapM (λf=>(c.P.info? f.type).map λi=>(f.offset,i.size))=J (W.toList.map λf=>(f.offset,c.P.cellsOf f.type)):=by
   apply M2;intro f hf;let⟨d,i,hd,hi,hs,_⟩:=Un<|a0 f<|Array.mem_toList_iff.1 hf;simp[hi,hs]
  refine⟨λx=>(W.toList.map λf=>(f.offset,c.P.cellsOf f.type)).toArray[x]?,λq f Q=> ?_,λps R hR=> ?_⟩;simp at Q;obtain⟨M,O,rfl⟩:=Q;simp[O];simp only[Program.built,hi,hu,a8,b5];exact hR;rename_i n el a4;split at Y;rename_i a0;cases Y;have hu:=DV a4;let⟨d,i',hd,b1,hs,_⟩:=Un a0;refine⟨λx=>J (x*c.P.cellsOf el,c.P.cellsOf el),λq f Q=> ?_,λps R hR=> ?_⟩;obtain⟨_,rfl⟩:=Z4h Q;rfl;simp[Program.built,hi,hu,a8,b1,<-hs];exact hR;cases Y;cases Y
 let⟨h1,h2,h3,h4,h5⟩:=G5 hr hC N a3 b.2.1 _ 0 0 b hb b0 Z1;simp only[Zi5]at h1 h4 h5;have u:∀p∈parts.toList,∃f,fs[p.1]?=J f/\(a.eval p.2).cells.size=f.2.1:=by
  intro p hp;have hl:=b4 p hp;refine⟨_,Zhi hl,h4 p.1 _ p Z1<|GV y hp⟩
 let⟨R,hR,a9,X,a5⟩:=AL place (parts.toList.map λp=>(p.1,a.eval p.2)) z.cells (by
  intro p hp;obtain⟨L,t,rfl⟩:=ZhC.1 hp;let⟨f,hf,A⟩:=u L t;refine⟨f.1,by rw[k _ f hf,A],?_⟩;rw[A,a3];exact(h3 _ f hf).2.1)
 refine⟨R,run_build w T _ R<|F _ _ (by simpa only[ZiI]using hR),by rw[a9,a3];omega,h2,λj ck hj=>h5 R (λq f Q j' b3=> ?_) j ck hj⟩;have K:∀q' M,fs[q']?=J M->q'≠q->f.1+f.2.1<=M.1\/M.1+M.2.1<=f.1:=by
  intro q' M S Z;obtain hl|hl:=Zki Z;exact .inr<|(h3 q' M S).2.2 q f Q hl;exact .inl<|(h3 q f Q).2.2 q' M S hl
 cases r:parts.toList.find? (λp=>p.1==q)with
 |some p=>
  have a7:=Zk2 r;have a1:p.1=q:=by simpa using ZkL r
  let⟨pre,b6,a2⟩:=List.append_of_mem a7;let⟨M,O,A⟩:=u p a7;rw[a1,Q]at O;cases O
  have b2:=a5 (pre.map λp=>(p.1,a.eval p.2)) (p.1,a.eval p.2) (b6.map λp=>(p.1,a.eval p.2)) (by rw[a2];simp) f.1 (by rw[a1,k q f Q,A]) (by
   intro q' S o n ho;obtain⟨L,t,rfl⟩:=ZhC.1 S;let⟨D,l,_⟩:=u L (by rw[a2];simp[t]);rw[k _ D l]at ho;obtain⟨rfl,rfl⟩:=ho;rw[A];refine K L.1 D l λhe=> ?_;rw[a2]at y;simp only[Ziv,ZhR,Zkr,Zj4]at y;exact y.2.1.1 (by rw[a1,<-he];exact ZhC.2 ⟨L,t,rfl⟩)) j' (by simp only;rw[A];exact b3)
  simp;rw[b2]
 |none=>
  have a6:=X (f.1+j') (by
   intro p hp off n ho;obtain⟨L,t,rfl⟩:=ZhC.1 hp;let⟨D,l,_⟩:=u L t;rw[k _ D l]at ho;obtain⟨rfl,rfl⟩:=ho;have Z:L.1≠q:=λhe=>by
    have:=List.find?_eq_none.1 r L t;simp[he]at this
   have:=K L.1 D l Z;omega)
  simp;rw[a6]
 simp at hb
end
end Vm
end
