import Derived.WalkKit
import Derived.Test.YtimfmcffdgpecaaGreatSMoveKeeps1
set_option linter.unusedSimpArgs false
set_option linter.unusedVariables false
set_option linter.defProp false
open Option renaming some→J,none→U
open Bool renaming true→xk,false→xw
open Go renaming undef→xy
open List renaming length→I
open Array renaming size→xz
open Go.World renaming heap→xj
open List renaming length→xq
open Array renaming size→xz
open Go.World renaming heap→xj
theorem ZgN{p:Prop}(h:p:=by simp at h):p:=h
theorem Zh5{p:Prop}(h:p:=by simpa using h):p:=h
theorem ZgT{p:Prop}(h:p:=by have:=D p d;simp[UL]at this;exact this y):p:=h
theorem Zh2{p:Prop}(h:p:=by rfl):p:=h
theorem ZgQ{p:Prop}(h:p:=by simp[Builtin.len_,run_underlying d,goInt]):p:=h
theorem ZgL{p:Prop}(h:p:=by rw[j.1];exact(List.getElem?_eq_some_iff.1 t).1):p:=h
theorem ZgU{p:Prop}(h:p:=by rw[cell_of_row w b o vs K _ H];simp_all):p:=h
theorem Zgv{p:Prop}(h:p:=by simp[E.df]at h):p:=h
def ZhY:=@List.length_append
def Zit:=@Nat.succ_mul
def ZhI:=@List.getElem?_append_left
def Zhy:=@List.getElem?_append_right
def Zie:=@List.mem_of_mem_take
def Zid:=@List.length_take
def Zlg:=@Nat.min_eq_left
def Zib:=@List.take_of_length_le
def ZhS:=@Nat.mul_le_mul_right
def ZiU:=@List.drop_of_length_le
def Zhh:=@List.mem_of_getElem?
def ZhX:=@Go.World.cell?_of_block
def Zig:=@Array.eq_empty_of_size_eq_zero
def Zj0:=@List.eq_nil_of_length_eq_zero
def Zhl:=@Go.cell_of_row
def ZhL:=@List.getElem?_take
def Zh7:=@Option.some.injEq
def Zh6:=@Option.bind_eq_some_iff
def Zh9:=@List.getElem?_eq_some_iff
def Zhn:=@List.all_eq_true
def Zke:=@List.any_eq_false
def Zkm:=@Bool.not_eq_true
def Zhw:=@Go.RowKit.Below.refl
def Zih:=@Option.isSome_iff_exists
def ZhQ:=@Go.run_underlying
def ZiZ:=@Go.Addr.add_lit
def ZiV:=@List.ext_getElem?
def ZhH:=@List.getElem?_of_mem
def ZhF:=@List.getElem?_drop
def Zis:=@Array.getElem?_toList
def ZhM:=@List.length_map
def ZiN:=@List.getElem?_toArray
def Zik:=@Nat.add_assoc
def Zhp:=@Int.eq_ofNat_of_zero_le
def Zh8:=@List.getElem?_eq_getElem
def ZiF:=@List.size_toArray
def Zjr:=@List.mem_of_mem_drop
def Zhm:=@Int.toNat_natCast
def Zl0:=@Array.getElem?_extract
def Zl1:=@List.drop_eq_nil_of_le
def Zj6:=@Nat.sub_self
def Ziy:=@List.take_length
def Ziu:=@Go.World.grownBy_alloc
def ZhB:=@Go.heap_alloc_new
def Zhx:=@List.getElem_mem
def Zip:=@List.length_cons
def ZkT:=@Nat.add_right_cancel_iff
def Zhz:=@List.getElem?_map
def Zk8:=@decide_eq_false_iff_not
def Zjb:=@List.nodup_cons
def ZhG:=@decide_eq_true_eq
def Zjl:=@Nat.lt_or_gt_of_ne
def ZjQ:=@List.mem_of_find?_eq_some
def Zky:=@List.find?_some
def Zir:=@List.map_append
def Zkf:=@List.nodup_append
section
namespace Vm
open Go
inductive V where
 |int (k:IntKind) (n:Int)
 |bool (b:Bool)
 |str (s:ByteArray)
 |sl (l:List V)
 |agg (cs:List V)
 |aq (l:List V)
 |ptr (cs:List V)
 |fn (f:FuncId)
 |mp (id:Nat) (ks vs:List V)
 |cy (f:FuncId) (cs:List V)
 |mh (k:Nat)
 deriving Inhabited
def V.cells:V->List V
 |.agg a=>a
 |x=>[x]
def V.one:V->Bool
 |.agg _|.aq _=>xw
 |_=>xk
def V.an(k:Nat)(x:V):Prop:=I x.cells=k/\∀c∈x.cells,c.one=xk
def flat(l:List V):List V:=l.flatMap V.cells
def Z3S:flat []=[]:=rfl
def RW x l:flat (x::l)=x.cells++flat l:=rfl
theorem AS l r:flat (l++r)=flat l++flat r:=by simp[flat]
def TW{k}:∀ {l},(∀x∈l,x.an k)->I (flat l)=I l*k
 | [],_=>by simp[flat]
 |x::l,h=>by
  rw[RW,ZhY,(h x Z1).1,TW (λy a=>h y<|by simp[a])];simp[Zit,Zkl]
def Vt{k}:∀ {l} {i:Nat} {x:V},(∀x∈l,x.an k)->l[i]?=J x->∀j,j<k->(flat l)[i*k+j]?=x.cells[j]?
 | [],i,x,_,h,_,_=>ZgN
 |y::l,0,x,a,h,j,d=>by
  simp at h;subst h;rw[RW,Nat.zero_mul,ZhZ,ZhI (by rw[(a y Z1).1];exact d)]
 |y::l,i+1,x,a,h,j,d=>by
  rw[RW,Zhy (by rw[(a y Z1).1];rw[Zit];omega),(a y Z1).1,
   show _*k+j-k=i*k+j from by rw[Zit];omega]
  exact Vt Zgd Zh5 j d
def Z3T{k l}(h:∀x∈l,x.an k)n:flat (l.take n)=(flat l).take (n*k):=by
 by_cases a:n<=I l;have f:I (flat<|l.take n)=n*k:=by
  rw[TW (λx d=>h x<|Zie d),Zid,Zlg a]
 grind [AS,List.take_append_drop];rw[Zib Z0,Zib];rw[TW h];exact ZhS _ Z0
def Z3Q{k l}(h:∀x∈l,x.an k)n:flat (l.drop n)=(flat l).drop (n*k):=by
 by_cases a:n<=I l;have f:I (flat<|l.take n)=n*k:=by
  rw[TW (λx d=>h x<|Zie d),Zid,Zlg a]
 grind [AS,List.take_append_drop];rw[ZiU Z0,ZiU,Z3S];rw[TW h];exact ZhS _ Z0
def Z3R{l}{i:Nat}{c}(h:(flat l)[i]?=J c):∃x∈l,c∈x.cells:=by
 have:=Zhh h;simp_all[flat]
inductive Rd (w:World) (G:Nat->Prop):V->Value->Prop where
 |int (k:IntKind) (n:Int):Rd w G (.int k n)<|.int k n
 |bool (b:Bool):Rd w G (.bool b)<|.bool b
 |str (s:ByteArray):Rd w G (.str s)<|.string s
 |nil (a:Option Addr) (cap:Nat):cap<=maxLen->Rd w G (.sl []) (.slice a 0 cap)
 |sl (l:List V) (b o cap k:Nat) (vs:Nat->Value):l.length<=cap->cap<=maxLen->G b->(∀x∈l,x.an k)->
   (∀i,i<l.length*k->w.cell? ⟨b,o+i,none⟩=some (vs i))->(∀i c,(flat l)[i]?=some c->Rd w G c (vs i))->
   Rd w G (.sl l) (.slice (some ⟨b,o,none⟩) l.length cap)
 |agg (cs:List V) (vs:Array Value):vs.size=cs.length->(∀c∈cs,c.one=true)->(∀i c,cs[i]?=some c->Rd w G c (vs.getD i undef))->Rd w G (.agg cs) (.agg vs)
 |aq (l:List V) (vs:Array Value):vs.size=l.length->(∀i c,l[i]?=some c->Rd w G c (vs.getD i undef))->Rd w G (.aq l) (.tuple vs)
 |ptr (cs:List V) (b o:Nat) (vs:Nat->Value):G b->(∀c∈cs,c.one=true)->(∀i,i<cs.length->w.cell? ⟨b,o+i,none⟩=some (vs i))->
   (∀i c,cs[i]?=some c->Rd w G c (vs i))->Rd w G (.ptr cs) (.pointer<|some ⟨b,o,none⟩)
 |fn (f:FuncId):Rd w G (.fn f)<|.func (.func f) #[] #[]
 |cy (f:FuncId) (cs:List V) (vs:Array Value):vs.size=cs.length->(∀i c,cs[i]?=some c->Rd w G c (vs.getD i undef))->Rd w G (.cy f cs) (.func (.func f) #[] vs)
 |im:Rd w G (.mh 0)<|.pointer none
 |io:Rd w G (.mh 1) .nilFunc
 |mg:Rd w G (.mp 0 [] [])<|.map none
 |mp (id:Nat) (ks xs:List V) (b clk:Nat) (es:Array MapEntry):(id=0\/id=b+1)->G b->w.heap[b]?=some (.map es clk)->ks.length=es.size->xs.length=es.size->
   (∀i c,ks[i]?=some c->Rd w G c (es.getD i default).key)->(∀i c,xs[i]?=some c->Rd w G c (es.getD i default).val)->Rd w G (.mp id ks xs) (.map<|some b)
def Same(G:Nat->Prop)(w w':World):Prop:=∀b,G b->w'.heap[b]?=w.heap[b]?
def Same.refl G w:Same G w w:=λ_ _=>rfl
theorem Same.trans{G a b c}(h:Same G a b)(k:Same G b c):Same G a c:=λx d=>(k x d).trans<|h x d
def Same.cell{G w w'}(h:Same G w w'){b o}(a:G b):w'.cell? ⟨b,o,U⟩=w.cell? ⟨b,o,U⟩:=
 ZhX (h b a)
def Rd.keep{w w' G G' x v}(h:Rd w G x v)(u:Same G w w')(L:∀b,G b->G' b):Rd w' G' x v:=by
 induction h with
 |int k n=>exact .int k n
 |bool b=>exact .bool b
 |str s=>exact .str s
 |nil a cap C=>exact .nil a cap C
 |sl l b o cap k vs d j q t K _ g=>exact .sl l b o cap k vs d j Zgd t (λi D=>by rw[u.cell q];grind) g
 |agg p vs d j _ g=>exact .agg p vs d j g
 |aq l vs d _ g=>exact .aq l vs d g
 |ptr p b o vs d j q _ g=>exact .ptr p b o vs Zgd j (λi D=>by rw[u.cell d];grind) g
 |fn f=>exact .fn f
 |cy f p vs d _ g=>exact .cy f p vs d g
 |im=>exact .im
 |io=>exact .io
 |mg=>exact .mg
 |mp id F H b r A B d j q t _ _ y z=>exact .mp id F H b r A B Zgd (by rw[u b d];exact j) q t y z
def Rd.mono{w G G' x v}(h:Rd w G x v)(a:∀b,G b->G' b):Rd w G' x v:=h.keep (.refl _ _) a
def Rd.ir{w G x v}(h:Rd w G x v):v.oneCell'=x.one:=by
 cases h<;>rfl
theorem Rd.cells{w G x v}(h:Rd w G x v)(L:∀l,x≠.aq l):v.cells.size=I x.cells/\(∀c∈x.cells,c.one=xk)/\∀i c,x.cells[i]?=J c->Rd w G c (v.cells.getD i xy):=by
 have d:∀ {x} {v:Value},Rd w G x v->x.one=xk->v.cells=#[v]->x.cells=[x]->v.cells.size=I x.cells/\(∀c∈x.cells,c.one=xk)/\∀i c,x.cells[i]?=J c->Rd w G c (v.cells.getD i xy):=by
  intro x v h g D F;rw[D,F];refine⟨rfl,Zgc,λi c C=> ?_⟩;cases i with
  |zero=>simp_all
  |succ i=>simp at C
 cases h with
 |agg r vs g j p=>exact⟨g,j,p⟩
 |aq l vs _ _=>simp_all
 |int k n=>exact d (.int k n) rfl rfl rfl
 |bool b=>exact d (.bool b) rfl rfl rfl
 |str s=>exact d (.str s) rfl rfl rfl
 |nil a cap B=>exact d (.nil a cap B) rfl rfl rfl
 |sl l b o cap k vs g j p q u y=>exact d (.sl l b o cap k vs g j p q u y) rfl rfl rfl
 |ptr r b o vs g j p q=>exact d (.ptr r b o vs g j p q) rfl rfl rfl
 |fn f=>exact d (.fn f) rfl rfl rfl
 |cy f r vs g j=>exact d (.cy f r vs g j) rfl rfl rfl
 |im=>exact d .im rfl rfl rfl
 |io=>exact d .io rfl rfl rfl
 |mg=>exact d .mg rfl rfl rfl
 |mp id H K b t z A g j p q u y=>exact d (.mp id H K b t z A g j p q u y) rfl rfl rfl
end Vm
namespace Vm
open Go
inductive KC where
 |b|i (k:IntKind)|s
 deriving DecidableEq,Inhabited
inductive E where
 |c (v:V)
 |s (t:Nat)
 |m (t i:Nat)
 |mm (t i n:Nat)
 |ce (op:BinOp) (a b:E)
 |fm (neg:Bool) (a b:E)
 |un (op:UnOp) (a:E)
 |conv (k:IntKind) (a:E)
 |len (a:E)
 |mn (a b:E)
 |mx (a b:E)
 |ext (a:E) (i:Nat)
 |ba (a i:E) (k:Nat)
 |ac (a:E) (o:Nat)
 |bi (a:E) (o n:Nat)
 |ai (a i:E) (n k:Nat) (ag:Bool)
 |ik (a lo hi:E) (k:Nat)
 |fi (a lo:E) (k:Nat)
 |app (a b:E) (k:Nat)
 |upd (a i:E) (o:Nat) (b:E)
 |di (a i:E) (n k:Nat) (b:E)
 |mk (z:V) (n:E)
 |lit (l:List E)
 |ag (l:List E)
 |ite (c a b:E)
 |ax (a:E)
 |bv (a:E)
 |one (a:E)
 |sz (a:E) (n:Nat)
 |fl (a:E)
 |kw (a:E)
 |lk (kc:KC) (a k:E) (z:V) (ok:Bool)
 |dj (kc:KC) (a k v:E)
 |eo (a:E)
 |fh (a:E)
 |pt (f:Option FuncId) (l:List E)
 deriving Inhabited
inductive SV where
 |no
 |v (x:V)
 |m (cs:List V)
 deriving Inhabited
abbrev St:=List SV
def get(s:St)(t:Nat):SV:=(s[t]?).getD .no
def Yc:Nat:=4294967296
def Xi:BinOp->V->V->Option V
 |.add,.int k a,.int d b=>if k=d then J (.int k<|k.wrap<|a+b)else U
 |.sub,.int k a,.int d b=>if k=d then J (.int k<|k.wrap<|a-b)else U
 |.mul,.int k a,.int d b=>if k=d then J (.int k<|k.wrap<|a*b)else U
 |.quo,.int k a,.int d b=>if k=d/\b≠0 then J (.int k<|k.wrap<|a.tdiv b)else U
 |.rem,.int k a,.int d b=>if k=d/\b≠0 then J (.int k<|a.tmod b)else U
 |.and,.int k a,.int d b=>if k=d then J (.int k<|k.wrap (BitVec.ofInt k.bits a&&& BitVec.ofInt k.bits b).toNat)else U
 |.or,.int k a,.int d b=>if k=d then J (.int k<|k.wrap (BitVec.ofInt k.bits a|||BitVec.ofInt k.bits b).toNat)else U
 |.xor,.int k a,.int d b=>if k=d then J (.int k<|k.wrap (BitVec.ofInt k.bits a ^^^ BitVec.ofInt k.bits b).toNat)else U
 |.shl,.int k a,.int _ b=>if 0<=b then J (.int k<|k.wrap<|a*2 ^ (min b.toNat k.bits))else U
 |.shr,.int k a,.int _ b=>if 0<=b then J (.int k<|a.fdiv<|2 ^ (min b.toNat k.bits))else U
 |.eql,.int k a,.int d b=>if k=d then J (.bool<|a==b)else U
 |.neq,.int k a,.int d b=>if k=d then J (.bool<|a !=b)else U
 |.lss,.int k a,.int d b=>if k=d then J (.bool<|decide (a<b))else U
 |.leq,.int k a,.int d b=>if k=d then J (.bool<|decide (a<=b))else U
 |.gtr,.int k a,.int d b=>if k=d then J (.bool<|decide (a>b))else U
 |.geq,.int k a,.int d b=>if k=d then J (.bool<|decide (a≥b))else U
 |_,_,_=>U
def SP(neg:Bool):V->V->Option V
 |.bool a,.bool b=>J<|.bool<|neg ^^ (a==b)
 |_,_=>U
def Ss:UnOp->V->Option V
 |.neg,.int k n=>J<|.int k<|k.wrap<|0-n
 |.not,.bool b=>J<|.bool !b
 |_,_=>U
def QY(k:IntKind):V->Option V
 |.int _ n=>J<|.int k<|k.wrap n
 |_=>U
def Qa:V->Option V
 |.sl l=>J<|.int .i64<|I l
 |_=>U
def Qf:V->V->Option V
 |.int k x,.int _ y=>J<|.int k (if y<x then y else x)
 |_,_=>U
def Qe:V->V->Option V
 |.int k x,.int _ y=>J<|.int k (if y>x then y else x)
 |_,_=>U
def TV:V->Nat->Option V
 |.aq l,i=>l[i]?
 |_,_=>U
def Xb(x i:V)(k:Nat):Option V:=
 match x,i with
 |.sl l,.int _ i=>if 0<=i then(l[i.toNat]?).bind λz=>if I z.cells=k then J z else U else U
 |_,_=>U
def V.pc:V->List V
 |.agg a=>a
 |x=>[x]
def Tj:V->Option V
 |.ptr a=>J<|.agg a
 |_=>U
def YV(x:V):Option V:=if x.one then J x else U
def VD(x:V)(n:Nat):Option V:=if I x.cells=n then match x with|.aq _=>U|x=>J x else U
def Q5:V->Option V
 |.agg a=>J<|.agg a
 |_=>U
def Y1(x:V)(o:Nat):Option V:=(x.pc[o]?).bind YV
def XA(k:Nat)(l:List V):Bool:=l.all λx=>I x.cells==k
def Uv(x:V)(o n:Nat):Option V:=if o+n<=(I x.pc) then J (.agg<|(x.pc.drop o).take n)else U
def Yb(x i:V)(n k:Nat)(ag:Bool):Option V:=
 match x,i with
 |.agg a,.int _ i=>if 0<=i/\i<n/\I a=n*k then(if ag then J (.agg<|(a.drop<|i.toNat*k).take k)else a[i.toNat*k]?)else U
 |_,_=>U
def Ro(k:Nat):V->V->V->Option V
 |.sl l,.int _ a,.int _ b=>if 0<=a/\a<=b/\b<=I l/\XA k l=xk then J (.sl<|(l.take b.toNat).drop a.toNat)else U
 |_,_,_=>U
def Qz(k:Nat):V->V->Option V
 |.sl l,.int _ a=>if 0<=a/\a<=I l/\XA k l=xk then J (.sl<|l.drop a.toNat)else U
 |_,_=>U
def RH(k:Nat):V->V->Option V
 |.sl a,.sl b=>if I a+I b<=Yc/\XA k b=xk then J (.sl<|a++b)else U
 |_,_=>U
def setCells(cs:List V)(o:Nat)(b:List V):List V:=cs.take o++b++cs.drop (o+I b)
def V.put(x:V)(o:Nat)(b:List V):V:=
 match x with
 |.agg a=>.agg<|setCells a o b
 |_=>b.headD x
def Rs(x i:V)(o:Nat)(b:V):Option V:=
 match x,i with
 |.sl l,.int _ i=>if 0<=i then(l[i.toNat]?).bind λy=>if o+I b.cells<=I y.cells/\b.cells≠[]then J (.sl<|l.set i.toNat<|y.put o b.cells)else U else U
 |_,_=>U
def US(x i:V)(n k:Nat)(b:V):Option V:=
 match x,i with
 |.agg a,.int _ i=>if 0<=i/\i<n/\I a=n*k/\I b.cells=k then J (.agg<|setCells a (i.toNat*k) b.cells)else U
 |_,_=>U
def L9(z:V):V->Option V
 |.int _ n=>if 0<=n/\n<=Yc then J (.sl<|List.replicate n.toNat z)else U
 |_=>U
def TR(l:List V):V:=.agg<|flat l
def V.bp:V->Bool
 |.int .. |.bool _|.str _=>xk
 |_=>xw
def WA(x:V):Option V:=
 match x with
 |.aq _=>U
 |x=>if x.cells.all V.bp then J x else U
def AV(x:V):Option V:=
 match x with
 |.sl l=>if(Vm.flat l).all V.bp then J x else U
 |_=>U
def L4:V->V->Option Bool
 |.int k a,.int d b=>if k=d then J (a==b)else U
 |.bool a,.bool b=>J<|a==b
 |.str a,.str b=>J<|a==b
 |_,_=>U
def Tu(k:V):List V->Option (Option Nat)
 | []=>J U
 |y::l=>match L4 k y with
  |some xk=>J<|J 0
  |some xw=>(Tu k l).map λr=>r.map (· +1)
  |none=>U
def Vg:KC->V->Bool
 |.b,.bool _=>xk
 |.i k,.int a _=>decide (k=a)
 |.s,.str _=>xk
 |_,_=>xw
def UA(a:KC)(x k z:V)(ok:Bool):Option V:=
 if Vg a k=xw then U else
 match x with
 | .mp _ d vs=>match Tu k d with
   |some (J i)=>(vs[i]?).map λv=>if ok then .aq [v,.bool xk]else v
   |some U=>J (if ok then .aq [z,.bool xw]else z)
   |none=>U
 |_=>U
def T8(d:KC)(x k v:V):Option V:=
 if Vg d k=xw then U else
 match x with
 | .mp id a vs=>match Tu k a with
   |some (J i)=>J<|.mp id a<|vs.set i v
   |some U=>J<|.mp id (a++[k])<|vs++[v]
   |none=>U
 |_=>U
def L6:V->Option V
 |.mp id _ _=>J<|.mp id [] []
 |_=>U
def R5:V->Option V
 |.mp _ a _=>J<|.int .i64<|I a
 |_=>U
def Je(c:V)(a b:Option V):Option V:=
 match c with
 |.bool xk=>a
 |.bool xw=>b
 |_=>U
def LE(f:Option FuncId)(l:List V):Option V:=
 match f with
 |none=>if l.all V.one then J (.ptr l)else U
 |some f=>J<|.cy f l
mutual
def eval(s:St):E->Option V
 |.c v=>J v
 |.s t=>match get s t with|.v x=>J x|_=>U
 |.m t i=>match get s t with|.m d=>(d[i]?).bind YV|_=>U
 |.mm t i n=>match get s t with|.m d=>if i+n<=(I d) then J (.agg<|(d.drop i).take n)else U|_=>U
 |.ce op a b=>(eval s a).bind λx=>(eval s b).bind λy=>Xi op x y
 |.fm n a b=>(eval s a).bind λx=>(eval s b).bind λy=>SP n x y
 |.un op a=>(eval s a).bind<|Ss op
 |.conv k a=>(eval s a).bind<|QY k
 |.len a=>(eval s a).bind Qa
 |.mn a b=>(eval s a).bind λx=>(eval s b).bind λy=>Qf x y
 |.mx a b=>(eval s a).bind λx=>(eval s b).bind λy=>Qe x y
 |.ext a i=>(eval s a).bind λx=>TV x i
 |.ba a i k=>(eval s a).bind λx=>(eval s i).bind λy=>Xb x y k
 |.ac a o=>(eval s a).bind λx=>Y1 x o
 |.bi a o n=>(eval s a).bind λx=>Uv x o n
 |.ai a i n k ag=>(eval s a).bind λx=>(eval s i).bind λy=>Yb x y n k ag
 |.ik a h j k=>(eval s a).bind λx=>(eval s h).bind λy=>(eval s j).bind λz=>Ro k x y z
 |.fi a h k=>(eval s a).bind λx=>(eval s h).bind λy=>Qz k x y
 |.app a b k=>(eval s a).bind λx=>(eval s b).bind λy=>RH k x y
 |.upd a i o b=>(eval s a).bind λx=>(eval s i).bind λy=>(eval s b).bind λz=>Rs x y o z
 |.di a i n k b=>(eval s a).bind λx=>(eval s i).bind λy=>(eval s b).bind λz=>US x y n k z
 |.mk z n=>(eval s n).bind<|L9 z
 |.lit l=>(YG s l).map .sl
 |.ag l=>(YG s l).map TR
 |.ite c a b=>(eval s c).bind λx=>Je x (eval s a)<|eval s b
 |.ax a=>(eval s a).bind Tj
 |.bv a=>(eval s a).bind Q5
 |.one a=>(eval s a).bind YV
 |.sz a n=>(eval s a).bind λx=>VD x n
 |.fl a=>(eval s a).bind WA
 |.kw a=>(eval s a).bind AV
 |.lk g a k z ok=>(eval s a).bind λx=>(eval s k).bind λy=>UA g x y z ok
 |.dj g a k v=>(eval s a).bind λx=>(eval s k).bind λy=>(eval s v).bind λz=>T8 g x y z
 |.eo a=>(eval s a).bind R5
 |.fh a=>(eval s a).bind L6
 |.pt f l=>(YG s l).bind<|LE f
def YG(s:St):List E->Option (List V)
 | []=>J []
 |e::l=>(eval s e).bind λx=>(YG s l).map (x:: ·)
end
mutual
def V.same:V->V->Bool
 |.int k n,.int h j=>decide (k=h)&&decide (n=j)
 |.bool a,.bool b=>a==b
 |.sl a,.sl b=>V.cn a b
 |.agg a,.agg b=>V.cn a b
 |.aq a,.aq b=>V.cn a b
 |.fn a,.fn b=>a==b
 |.mp i a b,.mp g d f=>i==g&&V.cn a d&&V.cn b f
 |_,_=>xw
def V.cn:List V->List V->Bool
 | [],[]=>xk
 |a::l,b::r=>V.same a b&&V.cn l r
 |_,_=>xw
end
mutual
def E.same:E->E->Bool
 |.c a,.c b=>V.same a b
 |.s a,.s b=>a==b
 |.m a i,.m b j=>a==b&&i==j
 |.mm a i n,.mm b j w=>a==b&&i==j&&n==w
 |.ce o a b,.ce u h p=>decide (o=u)&&E.same a h&&E.same b p
 |.fm o a b,.fm u h p=>o==u&&E.same a h&&E.same b p
 |.un o a,.un u h=>decide (o=u)&&E.same a h
 |.conv k a,.conv t h=>decide (k=t)&&E.same a h
 |.len a,.len b=>E.same a b
 |.mn a b,.mn h p=>E.same a h&&E.same b p
 |.mx a b,.mx h p=>E.same a h&&E.same b p
 |.ext a i,.ext b j=>E.same a b&&i==j
 |.ba a b k,.ba h p t=>E.same a h&&E.same b p&&k==t
 |.ac a o,.ac b u=>E.same a b&&o==u
 |.bi a o n,.bi b u w=>E.same a b&&o==u&&n==w
 |.ai a i n k g,.ai h x w t C=>E.same a h&&E.same i x&&n==w&&k==t&&g==C
 |.ik a b d k,.ik h p y t=>E.same a h&&E.same b p&&E.same d y&&k==t
 |.fi a b k,.fi h p t=>E.same a h&&E.same b p&&k==t
 |.app a b k,.app h p t=>E.same a h&&E.same b p&&k==t
 |.upd a i o b,.upd h x u p=>E.same a h&&E.same i x&&o==u&&E.same b p
 |.di a i n k b,.di h x w t p=>E.same a h&&E.same i x&&n==w&&k==t&&E.same b p
 |.mk z n,.mk B w=>V.same z B&&E.same n w
 |.lit l,.lit r=>E.cn l r
 |.ag l,.ag r=>E.cn l r
 |.ax a,.ax b=>E.same a b
 |.bv a,.bv b=>E.same a b
 |.one a,.one b=>E.same a b
 |.sz a n,.sz b w=>E.same a b&&n==w
 |.fl a,.fl b=>E.same a b
 |.kw a,.kw b=>E.same a b
 |.lk q a k z o,.lk A h t B u=>decide (q=A)&&E.same a h&&E.same k t&&V.same z B&&o==u
 |.dj q a k v,.dj A h t D=>decide (q=A)&&E.same a h&&E.same k t&&E.same v D
 |.eo a,.eo b=>E.same a b
 |.fh a,.fh b=>E.same a b
 |.pt f l,.pt g r=>f==g&&E.cn l r
 |.ite a b d,.ite h p y=>E.same a h&&E.same b p&&E.same d y
 |_,_=>xw
def E.cn:List E->List E->Bool
 | [],[]=>xk
 |a::l,b::r=>E.same a b&&E.cn l r
 |_,_=>xw
end
mutual
def E.bb(x:E):E->Bool
 |.ce o a b=>E.same x (.ce o a b)||E.bb x a||E.bb x b
 |.fm o a b=>E.same x (.fm o a b)||E.bb x a||E.bb x b
 |.un o a=>E.same x (.un o a)||E.bb x a
 |.conv k a=>E.same x (.conv k a)||E.bb x a
 |.len a=>E.same x (.len a)||E.bb x a
 |.mn a b=>E.same x (.mn a b)||E.bb x a||E.bb x b
 |.mx a b=>E.same x (.mx a b)||E.bb x a||E.bb x b
 |.ext a i=>E.same x (.ext a i)||E.bb x a
 |.ba a b k=>E.same x (.ba a b k)||E.bb x a||E.bb x b
 |.ac a o=>E.same x (.ac a o)||E.bb x a
 |.bi a o n=>E.same x (.bi a o n)||E.bb x a
 |.ai a i n k g=>E.same x (.ai a i n k g)||E.bb x a||E.bb x i
 |.ik a b d k=>E.same x (.ik a b d k)||E.bb x a||E.bb x b||E.bb x d
 |.fi a b k=>E.same x (.fi a b k)||E.bb x a||E.bb x b
 |.app a b k=>E.same x (.app a b k)||E.bb x a||E.bb x b
 |.upd a i o b=>E.same x (.upd a i o b)||E.bb x a||E.bb x i||E.bb x b
 |.di a i n k b=>E.same x (.di a i n k b)||E.bb x a||E.bb x i||E.bb x b
 |.mk z n=>E.same x (.mk z n)||E.bb x n
 |.lit l=>E.same x (.lit l)||E.gj x l
 |.ag l=>E.same x (.ag l)||E.gj x l
 |.ite a b d=>E.same x (.ite a b d)||E.bb x a
 |.ax a=>E.same x (.ax a)||E.bb x a
 |.bv a=>E.same x (.bv a)||E.bb x a
 |.one a=>E.same x (.one a)||E.bb x a
 |.sz a n=>E.same x (.sz a n)||E.bb x a
 |.fl a=>E.same x (.fl a)||E.bb x a
 |.kw a=>E.same x (.kw a)||E.bb x a
 |.lk q a k z o=>E.same x (.lk q a k z o)||E.bb x a||E.bb x k
 |.dj q a k v=>E.same x (.dj q a k v)||E.bb x a||E.bb x k||E.bb x v
 |.eo a=>E.same x (.eo a)||E.bb x a
 |.fh a=>E.same x (.fh a)||E.bb x a
 |.pt f l=>E.same x (.pt f l)||E.gj x l
 |.c v=>E.same x<|.c v
 |.s t=>E.same x<|.s t
 |.m t i=>E.same x<|.m t i
 |.mm t i n=>E.same x<|.mm t i n
def E.gj(x:E):List E->Bool
 | []=>xw
 |a::l=>E.bb x a||E.gj x l
end
def E.df:E->Bool
 |.c v=>v.one
 |.m .. |.ce .. |.fm .. |.un .. |.conv .. |.len _|.mn .. |.mx .. |.ac .. |.ik .. |.fi .. |.app .. |.upd .. |.mk .. |.lit _|.one _|.dj .. |.eo _|.fh _=>xk
 |.ite _ a b=>E.df a&&E.df b
 |_=>xw
def E.ru(n:Nat):E->Bool
 |.mm _ _ k=>k==n
 |.bi _ _ k=>k==n
 |.ag l=>I l==n&&l.all E.df
 |.sz _ k=>k==n
 |_=>xw
def qB(e:E):E:=if e.df then e else .one e
def DS(e:E)(n:Nat):E:=if e.ru n then e else .sz e n
def V8(ag:Bool)(n:Nat)(e:E):E:=if ag then DS e n else qB e
inductive TD where
 |sc|sl (e:TypeId)|st (fs:List<|Nat×Nat×Bool×Bool)|ar (n:Nat) (e:TypeId)|pt (e:TypeId)|no
 deriving DecidableEq,Inhabited
def Vc:Value->Option V
 |.int k n=>J<|.int k n
 |.bool b=>J<|.bool b
 |.string s=>J<|.str s
 |.slice U 0 0=>J<|.sl []
 |.func (.func f) first a=>if first.size=0/\a.size=0 then J (.fn f)else U
 |.map U=>J<|.mp 0 [] []
 |.pointer U=>J<|.mh 0
 |.nilFunc=>J<|.mh 1
 |_=>U
def Y8(P:Program)(t:TypeId):Bool:=
 match P.underlying t with
 |some (.struct _)|some (.array _ _)=>xk
 |_=>xw
def zeroCells(P:Program)(t:TypeId):Option<|List V:=
 ((P.info? t).bind (·.zero)).bind λz=>z.cells.toList.mapM Vc
def XM(P:Program)(t:TypeId):Bool:=
 match P.underlying t with
 |some .bool|some (.int _)|some .string=>xk
 |some (.struct _)|some (.array _ _)=>match zeroCells P t with|some l=>l.all V.bp|none=>xw
 |some (.tuple a)=>a.all λu=>match P.underlying u with
  |some .bool|some (.int _)|some .string=>xk
  |some (.struct _)|some (.array _ _)=>(match zeroCells P u with|some l=>l.all V.bp|none=>xw)
  |_=>xw
 |_=>xw
def YT(P:Program)(T:TypeId):Bool:=(P.underlying T).isSome&&(P.info? T).isSome
def VE(P:Program)(t:TypeId):TD:=
 match P.underlying t with
 |some .bool|some (.int _)|some .string=>.sc
 |some (.slice e)=>.sl e
 |some (.struct a)=>if a.toList.all (λf=>YT P f.type)then .st (a.toList.map λf=>(f.offset,P.cellsOf f.type,Y8 P f.type,XM P f.type))else .no
 |some (.array n e)=>.ar n e
 |some (.pointer e)=>.pt e
 |_=>.no
def UU(P:Program)(a:TypeId):Bool:=
 match P.info? a with
 |some i=>match i.zero with
  |some z=>z.cells.size==i.size&&decide (0<i.size)&&decide (i.bytes<=32768)
  |none=>xw
 |none=>xw
inductive CK where
 |fz|own (ty:TypeId)|nil|gh
 deriving DecidableEq,Inhabited
inductive OT where
 |fz|own (ty:TypeId)|nil|mem (l:List CK)|cy (f:FuncId) (caps:List Nat)
 deriving DecidableEq,Inhabited
inductive TK where
 |no
 |val (e:E) (sh:List Nat)
 |own (ty:TypeId) (e:E)
 |nil
 |mem (cs:List<|CK×E)
 |kr (cs:List<|CK×E)
 |ig (p:Nat)
 |fp (p i:Nat)
 |pm (p o:Nat)
 |pc (e:E) (o:Nat) (sh:List Nat)
 |pe (p:Nat) (i:Option Nat) (j:E) (o k:Nat)
 |pa (p o:Nat) (j:E) (n k:Nat)
 |cy (f:FuncId) (caps:List Nat)
 |pf (e:E) (sh:List Nat)
 deriving Inhabited
def TK.bu:TK->Bool
 |.no=>xk
 |_=>xw
abbrev ZG:=List<|Nat×Bool
abbrev Gam:=List<|Nat×ZG×TK
def Gam.at(g:Gam)(t:Nat):ZG×TK:=
 match g with
 | []=>([],.no)
 |(u,x)::r=>if u=t then x else Gam.at r t
def memOf(g:Gam)(p:Nat):Option<|List<|CK×E:=
 match g.at p with
 |([],.mem a)=>J a
 |_=>U
def ownOf(g:Gam)(p:Nat):Option<|TypeId×E:=
 match g.at p with
 |([],.own a e)=>J (a,e)
 |_=>U
def RO(a b:ZG):Bool:=a.all λx=>b.contains x
def look(g:Gam)(C:ZG)(t:Nat):TK:=let x:=g.at t;if RO x.1 C then x.2 else .no
def UR(cs:List<|CK×E):Bool:=cs.any λc=>match c.1 with|.own _=>xk|_=>xw
def Ww(cs:List<|CK×E):Bool:=cs.any λc=>c.1==.gh
def ownAt(g:Gam):TK->Option (TypeId×E)
 |.ig p=>ownOf g p
 | .fp p i=>(memOf g p).bind λa=>match a[i]? with
   |some (.own d,e)=>J (d,e)
   |_=>U
 |_=>U
def We(g:Gam)(k:TK)(t:Nat):Option<|E×List Nat:=
 match k with
 |.val e d=>J (e,d)
 |.own _ e=>J (e,[t])
 |.nil=>J (.c<|.sl [],[])
 |.kr a=>if Ww a then U else J (.ag (a.map (·.2)),if UR a then [t]else [])
 |.ig p=>(ownAt g<|.ig p).map λx=>(x.2,[p])
 |.fp p i=>(ownAt g<|.fp p i).map λx=>(x.2,[p])
 |_=>U
def Yr(g:Gam)(C:ZG)(x:Operand):TK:=
 match x with
 |.const (.slice U 0 0)=>.nil
 |.const v=>match Vc v with|some x=>.val (.c x) [] |none=>.no
 |.tmp t=>look g C t
 |.func f=>.val (.c<|.fn f) []
 |_=>.no
def Rb:Operand->Nat
 |.tmp t=>t
 |_=>0
def YD(g:Gam)(C:ZG)(x:Operand):Option<|E×List Nat:=
 We g (Yr g C x) (match x with|.tmp t=>t|_=>0)
def XQ(fl:Bool)(b:E×List Nat):E×List Nat:=if b.2.isEmpty then b else if fl then(.fl b.1,[])else b
def Lr(g:Gam)(C:ZG)(fl:Bool):List Operand->Option (List E×List Nat)
 | []=>J ([],[])
 |x::l=>(YD g C x).bind λd=>(Lr g C fl l).map λb=>let a:=XQ fl d;(a.1::b.1,a.2++b.2)
def Kn(g:Gam):List Nat->Option (List E)
 | []=>J []
 |p::l=>(memOf g p).bind λa=>if Ww a then U else(Kn g l).map λd=>.pt U (a.map (·.2))::d
def Uq(g:Gam)(k:TK)(t:Nat):Option<|E×List Nat:=
 match k with
 |.mem d=>if Ww d then U else J (.pt U (d.map (·.2)),[t])
 |.pm p 0=>(memOf g p).bind λd=>if Ww d then U else J (.pt U (d.map (·.2)),[p])
 |.cy f a=>(Kn g a).map λh=>(.pt (J f) h,a)
 |.pf e j=>J (e,j)
 |_=>U
def Ag(g:Gam)(C:ZG)(fl:Bool)(x:Operand):Option<|E×List Nat×Bool:=
 match YD g C x with
 |some a=>J ((XQ fl a).1,(XQ fl a).2,xw)
 |none=>(Uq g (Yr g C x)<|Rb x).map λa=>(a.1,a.2,xk)
def Kk(P:Program)(g:Gam)(C:ZG):List Operand->List TypeId->Option (List E×List Nat×Bool)
 | [],_=>J ([],[],xw)
 |x::l,d=>(Ag g C (match d with|t::_=>XM P t| []=>xw) x).bind λa=>(Kk P g C l d.tail).map λb=>(a.1::b.1,a.2.1++b.2.1,a.2.2||b.2.2)
def Td(p:Nat):Nat->List (CK×E)->Bool
 |_,[]=>xk
 |i,(_,.m q j)::r=>p==q&&i==j&&Td p (i+1) r
 |_,_=>xw
def E9:TK->List E
 |.val e _=>[e]
 |_=>[]
structure Ctx where
 P:Program
 ix:Nat->Nat
 own:Nat->Bool
 fresh:FuncId->Bool
 sig:FuncId->Option (List OT)
 tr:List Nat
 n:Nat
 kp:List Nat:=[]
def yV(c:Ctx)(g:Gam)(T:TypeId)(p o:Nat):Option TK:=
 (memOf g p).bind λa=>
  if Y8 c.P T then
   let part:=(a.drop o).take<|c.P.cellsOf T
   if I part=c.P.cellsOf T/\Ww part=xw/\0<c.P.cellsOf T then
    J (.val (if Td (c.ix p) o part then .mm (c.ix p) o (I part) else .ag (part.map (·.2)))<|if UR part then [p]else [])
   else U
  else match a[o]? with
   |some (.fz,e)=>J<|.val e []
   |some (.own _,_)=>J<|.fp p o
   |some (.nil,_)=>J .nil
   |_=>U
def BE(c:Ctx)(g:Gam)(T:TypeId)(p o:Nat)(j:E)(m k:Nat):Option TK:=
 (memOf g p).bind λa=>
  let part:=(a.drop o).take<|m*k
  if I part=m*k/\c.P.cellsOf T=k/\0<m*k/\UR part=xw/\Ww part=xw then
   J (.val (.ai (if Td (c.ix p) o part then .mm (c.ix p) o (I part) else .ag (part.map (·.2))) j m k<|Y8 c.P T) [])
  else U
def Ks(c:Ctx)(T:TypeId)(e:E)(o:Nat):E:=if Y8 c.P T then .bi e o (c.P.cellsOf T)else .ac e o
def Ql(p:Nat):Option Nat->TK
 |none=>.ig p
 |some i=>.fp p i
def BF(c:Ctx)(g:Gam)(T:TypeId)(p:Nat)(i:Option Nat)(j:E)(o k:Nat):Option TK:=
 (ownAt g<|Ql p i).bind λx=>if c.P.cellsOf x.1=k then J (.val (Ks c T (.ba x.2 j k) o) [p])else U
def IF(c:Ctx)(g:Gam)(T:TypeId)(k:TK)(t:Nat):Option TK:=
 match k with
 |.mem _=>yV c g T t 0
 |.pm p o=>yV c g T p o
 |.pc e o a=>J<|.val (Ks c T e o) a
 |.val e a=>J<|.val (Ks c T (.ax e) 0) a
 |.pe p i j o k=>BF c g T p i j o k
 |.pa p o j m k=>BE c g T p o j m k
 |_=>U
def KF(P:Program)(T:TypeId)(f:Nat):Option<|Nat×Nat×Bool×Bool:=
 match VE P T with
 |.st a=>a[f]?
 |_=>U
abbrev PK:=Option<|TK×List E
def TK.mb:TK->Bool
 |.own .. |.mem _|.kr _|.no=>xw
 |_=>xk
def CS(g:Gam)(C:ZG)(x:Operand):PK:=
 if(Yr g C x).mb then J (Yr g C x,[])else
 match x,Yr g C x with
 |.tmp t,.own _ _=>J (.ig t,[])
 |.tmp t,.mem _=>J (.pm t 0,[])
 |.tmp t,.kr a=>(We g (.kr a) t).map λy=>(.val y.1 y.2,[])
 |_,_=>U
def CT(g:Gam)(C:ZG)(x:Operand):PK:=
 match Yr g C x with
 |.mem _=>J (.pm (Rb x) 0,[])
 |.pm p o=>J (.pm p o,[])
 |.val e a=>J (.val e a,[.ax e])
 |_=>U
def CE(c:Ctx)(g:Gam)(C:ZG)(ty:TypeId)(x:Operand):PK:=
 match Yr g C x with
 |.val e []=>J (.val e [],[])
 |.val e (p::d)=>if XM c.P ty then J (.val (.fl e) [],[.fl e])else U
 |.nil=>J (.nil,[])
 |.cy f a=>J (.cy f a,[])
 |_=>U
def CC(c:Ctx)(T:TypeId):PK:=
 (zeroCells c.P T).bind λz=>if z.isEmpty then U else J (.mem (z.map λx=>((match x with|.sl _=>CK.nil|_=>.fz),E.c x)),[])
def CG(c:Ctx)(g:Gam)(C:ZG)(T:TypeId)(x:Operand):PK:=
 match Yr g C x with
 | .val a []=>
   if YT c.P T then
    let e:=V8 (Y8 c.P T) (c.P.cellsOf T) a
    if Y8 c.P T then J (.mem ((List.range<|c.P.cellsOf T).map λi=>(CK.fz,E.ac e i)),[e])else J (.mem [(.fz,e)],[e])
   else U
 |_=>U
def AF(P:Program)(T:TypeId):Bool:=
 match P.underlying T with
 |some .bool=>xk
 |_=>xw
def QT(P:Program)(a:TypeId->Nat->Option E)(n o:Nat):List Field->Option E
 | []=>J<|.c<|.bool xk
 |f::l=>if f.name≠ "_" /\f.offset+P.cellsOf f.type<=n then(a f.type<|o+f.offset).bind λx=>(QT P a n o l).map λy=>.ite x y (.c<|.bool xw)else U
def Ur(P:Program)(a b:E):Nat->TypeId->Nat->Option E
 |0,_,_=>U
 |d+1,T,o=>
  match P.underlying T with
  |some .bool=>if P.cellsOf T=1 then J (.fm xw (.ac a o)<|.ac b o)else U
  |some (.int _)=>if P.cellsOf T=1 then J (.ce .eql (.ac a o)<|.ac b o)else U
  |some (.struct f)=>if f.toList≠[]/\P.cellsOf T≠0/\P.stoodInHeld T=xw then QT P (Ur P a b d) (P.cellsOf T) o f.toList else U
  |_=>U
def J0(P:Program)(T:TypeId)(a b:E):Option E:=
 if Y8 P T/\P.eqGuardType P.depth T=xw then Ur P (.sz (.bv a)<|P.cellsOf T) (.sz (.bv b)<|P.cellsOf T) 4 T 0 else U
def zM(P:Program)(T:TypeId)(op:BinOp)(a b:E):E:=
 if AF P T then match op with
  |.eql=>.fm xw a b
  |.neq=>.fm xk a b
  |_=>.ce op a b
 else match op with
  |.eql=>(J0 P T a b).getD<|.ce op a b
  |.neq=>((J0 P T a b).map<|.un .not).getD<|.ce op a b
  |_=>.ce op a b
def CF(c:Ctx)(g:Gam)(C:ZG)(op:BinOp)(T:TypeId)(x y:Operand):PK:=
 (YD g C x).bind λa=>(YD g C y).map λb=>let e:=zM c.P T op a.1 b.1;(.val e [],[e])
def O8(g:Gam)(C:ZG)(op:UnOp)(x:Operand):PK:=(YD g C x).map λa=>(.val (.un op a.1) [],[.un op a.1])
def O5(c:Ctx)(g:Gam)(C:ZG)(f d:TypeId)(x:Operand):PK:=
 if(c.P.underlying f).isNone then U else
 match c.P.underlying d with
 |some (.int k)=>(YD g C x).map λa=>(.val (.conv k a.1) [],[.conv k a.1])
 |_=>U
def O6(c:Ctx)(g:Gam)(C:ZG)(ty:TypeId)(x:Operand)(i:Nat):PK:=
 (YD g C x).map λa=>let y:=XQ (XM c.P ty) (.ext a.1 i,a.2);(.val y.1 y.2,[y.1])
def CN(c:Ctx)(g:Gam)(C:ZG)(T:TypeId)(a:Operand):PK:=
 if YT c.P T then(IF c g T (Yr g C a)<|Rb a).map λk=>(k,E9 k)else U
def CI(c:Ctx)(g:Gam)(C:ZG)(T:TypeId)(a:Operand)(f:Nat):PK:=
 (KF c.P T f).bind λx=>if x.2.1=0 then U else
  match Yr g C a with
  |.mem _=>J (.pm (Rb a) x.1,[])
  |.pm p q=>J (.pm p<|q+x.1,[])
  |.pc e q d=>J (.pc e (q+x.1) d,[])
  |.val e d=>J (.pc (.ax e) x.1 d,[.ax e])
  |.pe p i j q k=>J (.pe p i j (q+x.1) k,[])
  |_=>U
def yO(c:Ctx)(g:Gam)(p:Nat)(i:Option Nat)(a:TypeId)(j:E):PK:=
 (ownAt g<|Ql p i).bind λx=>if c.P.cellsOf x.1=c.P.cellsOf a/\YT c.P a=xk then J (.pe p i j 0<|c.P.cellsOf a,[.ba x.2 j<|c.P.cellsOf a])else U
def CM(c:Ctx)(g:Gam)(C:ZG)(T:TypeId)(x i:Operand):PK:=
 match VE c.P T with
 | .sl a=>(YD g C i).bind λj=>
   match Yr g C x with
   |.ig p=>yO c g p U a j.1
   |.fp p q=>yO c g p (J q) a j.1
   |.val e d=>if YT c.P a then J (.pc (.ba e j.1<|c.P.cellsOf a) 0 d,[.ba e j.1<|c.P.cellsOf a])else U
   |_=>U
 | .ar n a=>if !YT c.P a then U else(YD g C i).bind λj=>
   match Yr g C x with
   |.mem _=>J (.pa (Rb x) 0 j.1 n<|c.P.cellsOf a,[.ai (.c<|.agg<|List.replicate n<|.bool xk) j.1 n 1 xw])
   |.pm p o=>J (.pa p o j.1 n<|c.P.cellsOf a,[.ai (.c<|.agg<|List.replicate n<|.bool xk) j.1 n 1 xw])
   |.pc e q d=>let f:=E.ai (.bi e q<|n*c.P.cellsOf a) j.1 n (c.P.cellsOf a) xk;J (.pc f 0 d,[f])
   |_=>U
 |_=>U
def CJ(c:Ctx)(g:Gam)(C:ZG)(T:TypeId)(x:Operand)(f:Nat):PK:=
 (KF c.P T f).bind λy=>if y.2.1=0 then U else(YD g C x).map λa=>
  let e:=if y.2.2.1 then E.bi (.bv a.1) y.1 y.2.1 else .ac (.bv a.1) y.1
  (.val e a.2,[e])
def CL(c:Ctx)(g:Gam)(C:ZG)(T:TypeId)(x i:Operand):PK:=
 match VE c.P T with
 | .ar n d=>if !YT c.P d then U else(YD g C x).bind λa=>(YD g C i).map λb=>
   let e:=E.ai a.1 b.1 n (c.P.cellsOf d)<|Y8 c.P d
   (.val e a.2,[e])
 |_=>U
def Lq(g:Gam)(C:ZG):Option Operand->Option E
 |some l=>(YD g C l).map Prod.fst
 |none=>J<|.c<|.int .i64 0
def Cc(g:Gam)(C:ZG)(a l:E)(k:Nat):Option Operand->Option E
 |some h=>(YD g C h).map λy=>.ik a l y.1 k
 |none=>J<|.fi a l k
def CW(c:Ctx)(g:Gam)(C:ZG)(T:TypeId)(x:Operand)(lo f:Option Operand):PK:=
 match VE c.P T with
 | .sl d=>if YT c.P d then(YD g C x).bind λa=>
   (Lq g C lo).bind λl=>(Cc g C a.1 l (c.P.cellsOf d) f).map λe=>(.val e a.2,[e])else U
 |_=>U
def Cz(g:Gam)(C:ZG)(n:Nat)(ag fl:Bool)(x:Operand):Option<|List (CK×E)×List Nat×List Nat:=
 match x,Yr g C x with
 |.tmp t,.own f e=>J ([(.own f,e)],[],[t])
 |_,.nil=>J ([(.nil,.c<|.sl [])],[],[])
 |_,_=>(YD g C x).map λd=>let a:=XQ fl d;let e:=V8 ag n a.1;(if ag then(List.range n).map λj=>(.fz,.ac e j)else [(.fz,e)],a.2,[])
abbrev BC:=List (CK×E)×List Nat×List Nat
def zt(a:List V)(o n:Nat):BC:=(((a.drop o).take n).map λz=>((match z with|.sl _=>CK.nil|_=>CK.fz),E.c z),[],[])
def NY(g:Gam)(C:ZG)(a:List V)(parts:List<|Nat×Operand)(f:Nat×Nat×Bool×Bool)(i:Nat):Option BC:=
 match parts.find? (λp=>p.1==i)with
 |some p=>Cz g C f.2.1 f.2.2.1 f.2.2.2 p.2
 |none=>J<|zt a f.1 f.2.1
def Sa:List Nat->Bool
 | []=>xk
 |x::l=> !l.contains x&&Sa l
def Kl(g:Gam)(C:ZG)(d:List V)(parts:List<|Nat×Operand):List (Nat×Nat×Bool×Bool)->Nat->Nat->Option BC
 | [],_,o=>if o=(I d) then J ([],[],[])else U
 |f::r,i,o=>(NY g C d parts f i).bind λa=>if f.1=o/\I a.1=f.2.1/\f.2.1≠0 then(Kl g C d parts r (i+1)<|o+f.2.1).map λb=>(a.1++b.1,a.2.1++b.2.1,a.2.2++b.2.2)else U
def zQ(g:Gam)(C:ZG)(a:List V)(parts:List<|Nat×Operand)(fs:List<|Nat×Nat×Bool×Bool):Option BC:=
 if Sa (parts.map (·.1))&&parts.all (λp=>decide (p.1<I fs))then Kl g C a parts fs 0 0 else U
def Z2o(cs:List<|CK×E):Bool:=cs.all λc=>c.1==.fz
def qR(P:Program)(T:TypeId):Option<|List<|Nat×Nat×Bool×Bool:=
 match VE P T with
 |.st d=>J d
 |.ar n a=>if YT P a then J ((List.range n).map λi=>(i*P.cellsOf a,P.cellsOf a,Y8 P a,XM P a))else U
 |_=>U
def O4(c:Ctx)(g:Gam)(C:ZG)(T:TypeId)(parts:List<|Nat×Operand):PK:=
 (qR c.P T).bind λa=>(zeroCells c.P T).bind λd=>(zQ g C d parts a).bind λb=>
  if b.2.2.isEmpty then
   let e:=E.ag (b.1.map (·.2))
   if b.2.1.isEmpty&& !Z2o b.1 then J (.kr b.1,[e])else J (.val e b.2.1,[e])
  else U
def TH(c:Ctx)(a:Option Nat)(f:TypeId)(e:E)(sh:List Nat):PK:=
 match a with
 |some d=>if c.own d&&sh.isEmpty then J (.own f e,[e])else J (.val e sh,[e])
 |none=>U
def CH(c:Ctx)(g:Gam)(C:ZG)(d:Option Nat)(T:TypeId)(n:Nat)(parts:List<|Nat×Operand):PK:=
 match VE c.P T with
 | .sl a=>(Lr g C (XM c.P a) (parts.map (·.2))).bind λf=>
   if parts.map (·.1)=List.range n/\n<256/\c.P.cellsOf a<256/\UU c.P a=xk/\(Y8 c.P a=xk\/c.P.cellsOf a=1)then TH c d a (.lit<|f.1.map<|V8 (Y8 c.P a)<|c.P.cellsOf a) f.2 else U
 |_=>U
def Dp:Operand->Operand->Bool
 |.tmp t,.tmp u=>t==u
 |.const (.int _ x),.const (.int _ y)=>x==y
 |_,_=>xw
def CP(c:Ctx)(g:Gam)(C:ZG)(f:Option Nat)(T:TypeId)(n m:Operand):PK:=
 match VE c.P T with
 | .sl d=>(zeroCells c.P d).bind λz=>(YD g C n).bind λa=>
   if Dp n m&&UU c.P d&&(Y8 c.P d||I z==1)then TH c f d (.mk (if Y8 c.P d then .agg z else z.headD<|.agg []) a.1) []else U
 |_=>U
def O7(c:Ctx)(g:Gam)(C:ZG)(T:TypeId)(x:Operand):PK:=
 match c.P.underlying T with
 |some (.slice _)=>(YD g C x).map λa=>(.val (.len a.1) [],[.len a.1])
 |some (.array n _)=>J (.val (.c<|.int .i64 n) [],[])
 |some (.map _ _)=>(YD g C x).map λa=>(.val (.eo a.1) [],[.eo a.1])
 |_=>U
def Ko(g:Gam)(C:ZG):List Operand->Option (List Nat)
 | []=>J []
 |x::l=>match x,Yr g C x with
  |.tmp t,.mem _=>(Ko g C l).map (t:: ·)
  |_,_=>U
def CQ(g:Gam)(C:ZG)(f:Go.Fn)(first a:List Operand):PK:=
 match f,first,a with
 |.func f,[],[]=>J (.val (.c<|.fn f) [],[])
 |.func f,[],l=>(Ko g C l).map λd=>(.cy f d,[])
 |_,_,_=>U
def yQ(P:Program)(t:TypeId):Option KC:=
 match P.underlying t with
 |some .bool=>J .b
 |some (.int k)=>J<|.i k
 |some .string=>J .s
 |_=>U
def Em(P:Program)(t:TypeId):Option V:=
 ((P.info? t).bind (·.zero)).bind λz=>match z with
   |.agg a=>(a.toList.mapM Vc).map .agg
   |v=>Vc v
def Bo(P:Program)(t:TypeId):Bool:=
 match P.underlying t with
 |some (.map _ _)=>xk
 |_=>xw
def CR(c:Ctx)(T:TypeId):PK:=if Bo c.P T then J (.own T<|.c<|.mp 0 [] [],[])else U
def LB(c:Ctx)(g:Gam)(C:ZG)(T:TypeId)(x k:Operand)(ok:Bool):PK:=
 match c.P.underlying T with
 |some (.map h d)=>(yQ c.P h).bind λf=>(Em c.P d).bind λz=>(YD g C x).bind λa=>(YD g C k).map λb=>
   let e:=E.lk f a.1 b.1 z ok
   (.val e a.2,[e])
 |_=>U
def Gk(P:Program)(T:TypeId):Bool:=
 match P.underlying T with
 |some (.map _ a)=>XM P a
 |_=>xw
def CO(c:Ctx)(g:Gam)(C:ZG)(T:TypeId)(x k:Operand)(ok:Bool):PK:=
 (LB c g C T x k ok).bind λr=>match r.1 with
 |.val e a=>let y:=XQ (!ok&&Gk c.P T) (e,a);J (.val y.1 y.2,[y.1])
 |_=>U
def qT(g:Gam)(C:ZG)(mx:Bool)(x y:Operand):PK:=
 (YD g C x).bind λa=>(YD g C y).map λb=>let e:=if mx then E.mx a.1 b.1 else .mn a.1 b.1;(.val e [],[e])
def SO(fl:Bool)(b:E×List Nat):E×List Nat:=if b.2.isEmpty then b else if fl then(.kw b.1,[])else b
def CD(c:Ctx)(g:Gam)(C:ZG)(a:Option Nat)(T h:TypeId)(x y:Operand):PK:=
 match VE c.P T with
 |.sl f=>if T=h/\UU c.P f=xk then
   match Yr g C x with
   | .nil=>(YD g C y).bind λb=>
     let y:=SO (XM c.P f) b
     if(match a with|some d=>c.own d|none=>xw)&& !y.2.isEmpty then U else TH c a f (.app (.c<|.sl []) y.1<|c.P.cellsOf f) y.2
   |_=>U
  else U
 |_=>U
def pk(c:Ctx)(g:Gam)(C:ZG)(o:Oper):PK:=
 match o.op with
 |.move x=>CS g C x
 |.nilCheck x=>CT g C x
 |.assign x=>CE c g C o.type x
 |.alloc T=>CC c T
 |.box T x=>CG c g C T x
 |.binOp op T x y _=>CF c g C op T x y
 |.unOp op _ x=>O8 g C op x
 |.convert j h x=>O5 c g C j h x
 |.extract x i=>O6 c g C o.type x i
 |.load T a=>CN c g C T a
 |.fieldAddr T a f=>CI c g C T a f
 |.indexAddr T x i=>CM c g C T x i
 |.field T x f=>CJ c g C T x f
 |.index T x i=>CL c g C T x i
 |.slice T x p l U=>CW c g C T x p l
 |.build T parts=>O4 c g C T parts.toList
 |.buildSlice T n parts=>CH c g C o.dst T n parts.toList
 |.makeSlice T n m=>CP c g C o.dst T n m
 |.makeFunc f first d=>CQ g C f first.toList d.toList
 |.makeMap T U=>CR c T
 |.lookup T x k ok=>CO c g C T x k ok
 | .call {callee:=.builtin .len,args,argTypes}=>match args.toList,argTypes.toList with
   | [x],[T]=>O7 c g C T x
   |_,_=>U
 | .call {callee:=.builtin .min,args, .. }=>match args.toList with
   | [x,y]=>qT g C xw x y
   |_=>U
 | .call {callee:=.builtin .max,args, .. }=>match args.toList with
   | [x,y]=>qT g C xk x y
   |_=>U
 | .call {callee:=.builtin .append,args,argTypes}=>match args.toList,argTypes.toList with
   | [x,y],[T,q]=>CD c g C o.dst T q x y
   |_,_=>U
 |_=>U
inductive FN where
 |id (f:FuncId)
 |e (x:E)
 deriving Inhabited
def FN.es:FN->List E
 |.id _=>[]
 |.e x=>[x]
inductive EF where
 |lt (i:Nat) (C:ZG) (e:E)
 |call (i:Nat) (C:ZG) (f:FN) (fr fl:Bool) (args:List E)
 |ct (i:Nat) (C:ZG) (f:FN) (ks:List OT) (args:List E)
 deriving Inhabited
inductive OV where
 |v (e:E)
 |m (l:List E)
 |no
 deriving Inhabited
structure Reg where
 efs:List EF
 chks:List<|ZG×E
 outs:List<|Nat×OV
 deriving Inhabited
structure OS where
 d:Gam
 ps:List Nat
 rb:List Nat
 fz:List Nat
 efs:List EF
 chks:List<|ZG×E
 deriving Inhabited
def H5:CK->CK
 |.own _=>.fz
 |k=>k
def RY:TK->TK
 |.own _ e=>.val e []
 |.kr a=>if Ww a then .no else .val (.ag (a.map (·.2))) []
 |.mem a=>.mem (a.map λc=>(H5 c.1,c.2))
 |k=>k
def Jb(fz:List Nat):TK->Bool
 |.pe q _ _ _ _=>fz.contains q
 |_=>xw
def UL(p:Nat):TK->Bool
 |.val _ a=>a.contains p
 |.ig q=>p==q
 |.fp q _=>p==q
 |.pc _ _ a=>a.contains p
 |.pe q _ _ _ _=>p==q
 |.pf _ a=>a.contains p
 |_=>xw
def leads(p:Nat):TK->Bool
 |.pa q _ _ _ _=>p==q
 |.pm q _=>p==q
 |.cy _ a=>a.contains p
 |_=>xw
def Vs(ps rb fz:List Nat)(k:TK):Bool:= !(ps.any λp=>UL p k)&& !(rb.any λp=>leads p k)&& !Jb fz k
def Wi(ps rb fz:List Nat)(g:Gam):Gam:=g.filterMap λx=>if Vs ps rb fz x.2.2 then U else J (x.1,[],.no)
def Ua(fz:List Nat)(g:Gam):Gam:=fz.map λp=>(p,(g.at p).1,RY (g.at p).2)
def frz(fz:List Nat)(g:Gam):Gam:=Wi [] [] fz g++Ua fz g++g
def ZV(g:Gam):List Nat:=g.map (·.1)
structure MS where
 d:Gam
 ps:List Nat
 rb:List Nat
 fz:List Nat
 es:List E
 deriving Inhabited
def SZ(g:Gam)(fl:Bool)(x:Operand):Option<|E×List Nat:=(YD g [] x).map λa=>XQ fl a
def JL(cs:List<|CK×E)(o:Nat)(new:List<|CK×E):List<|CK×E:=cs.take o++new++cs.drop (o+I new)
def UF(g:Gam)(p o:Nat)(new:List<|CK×E):Option TK:=
 (memOf g p).bind λa=>if o+I new<=(I a) then J (.mem<|JL a o new)else U
def He(c:Ctx)(g:Gam)(d:Nat):TK->Option (Nat×TypeId×E)
 |.ig p=>if c.tr.contains d&&p !=d then(ownOf g p).map λy=>(p,y.1,y.2)else U
 |_=>U
def qa(c:Ctx)(g:Gam)(ty:TypeId)(d:Nat)(x:Operand):Option MS:=
 match x,Yr g [] x with
 |.tmp t,.own ty e=>if t=d\/(g.at t).1≠[]then U else J {d:=[(d,[],.own ty e),(t,[],.no)],ps:=[d,t],rb:=[d,t],fz:=[],es:=[]}
 |.tmp t,.mem f=>if t=d\/(g.at t).1≠[]then U else J {d:=[(d,[],.mem f),(t,[],.no)],ps:=[d,t],rb:=[d,t],fz:=[],es:=[]}
 | .tmp _,.pm p 0=>if c.tr.contains d&&p !=d then(memOf g p).bind λf=>if Ww f then U else
   J {d:=[(d,[],.val (.pt U (f.map (·.2))) []),(p,[],.no)],ps:=[d,p],rb:=[d,p],fz:=[],es:=[.pt U (f.map (·.2))]}else U
 |_,.nil=>J {d:=[(d,[],.nil)],ps:=[d],rb:=[d],fz:=[],es:=[]}
 |_,k=>match He c g d k with
  |some (p,ty,e)=>J {d:=[(d,[],.own ty e),(p,[],.no)],ps:=[d,p],rb:=[d,p],fz:=[],es:=[]}
  |none=>(SZ g (XM c.P ty) x).map λa=> {d:=[(d,[],.val a.1 [])],ps:=[d],rb:=[d],fz:=a.2,es:=[a.1]}
def qd(c:Ctx)(g:Gam)(T:TypeId)(p o:Nat)(x:Operand):Option MS:=
 let n:=c.P.cellsOf T
 if Y8 c.P T then
  match x,Yr g [] x with
  |.tmp t,.kr f=>if I f=n/\t≠p/\(g.at t).1=[]then(UF g p o f).map λk=> {d:=[(p,[],k),(t,[],.no)],ps:=[p,t],rb:=[t],fz:=[],es:=[]}else U
  |_,_=>(SZ g (XM c.P T) x).bind λa=>let e:=V8 xk n a.1;(UF (frz a.2 g) p o<|(List.range n).map λj=>(CK.fz,E.ac e j)).map λk=> {d:=[(p,[],k)],ps:=[p],rb:=[],fz:=a.2,es:=[e]}
 else match x,Yr g [] x with
  |.tmp t,.own h e=>if t≠p/\(g.at t).1=[]then(UF g p o [(.own h,e)]).map λk=> {d:=[(p,[],k),(t,[],.no)],ps:=[p,t],rb:=[t],fz:=[],es:=[]}else U
  |_,.nil=>(UF g p o [(.nil,.c<|.sl [])]).map λk=> {d:=[(p,[],k)],ps:=[p],rb:=[],fz:=[],es:=[]}
  |_,_=>(SZ g (XM c.P T) x).bind λa=>let e:=qB a.1;(UF (frz a.2 g) p o [(.fz,e)]).map λk=> {d:=[(p,[],k)],ps:=[p],rb:=[],fz:=a.2,es:=[e]}
def BW(c:Ctx)(g:Gam)(T:TypeId)(p:Nat)(i:Option Nat)(j:E)(o k:Nat)(x:Operand):Option MS:=
 (SZ g (XM c.P T) x).bind λa=>let e:=V8 (Y8 c.P T) (c.P.cellsOf T) a.1;let g:=frz a.2 g
  if a.2.contains p then U else
  match i with
  |none=>(ownOf g p).bind λx=>let f:=E.upd x.2 j o e;if c.P.cellsOf x.1=k then J {d:=[(p,[],.own x.1 f)],ps:=[p],rb:=[],fz:=a.2,es:=[f]}else U
  |some q=>(memOf g p).bind λl=>match l[q]? with
   |some (.own h,n)=>let f:=E.upd n j o e;if c.P.cellsOf h=k then(UF g p q [(.own h,f)]).map λk=> {d:=[(p,[],k)],ps:=[p],rb:=[],fz:=a.2,es:=[f]}else U
   |_=>U
def BV(c:Ctx)(g:Gam)(T:TypeId)(p o:Nat)(j:E)(n k:Nat)(x:Operand):Option MS:=
 (SZ g (XM c.P T) x).bind λf=>let a:=(V8 (Y8 c.P T) (c.P.cellsOf T) f.1,f.2);if !a.2.isEmpty||c.P.cellsOf T≠k then U else
  (memOf g p).bind λl=>
   let part:=(l.drop o).take<|n*k
   if I part=n*k/\part.all (λx=>x.1==.fz)then
    let h:=E.di (if Td (c.ix p) o part then .mm (c.ix p) o (n*k)else .ag (part.map (·.2))) j n k a.1
    (UF g p o<|(List.range<|n*k).map λi=>(CK.fz,E.ac h i)).map λk=> {d:=[(p,[],k)],ps:=[p],rb:=[],fz:=[],es:=[h]}
   else U
def BS(c:Ctx)(g:Gam)(d:Nat)(T:TypeId)(parts:List<|Nat×Operand):Option MS:=
 (qR c.P T).bind λf=>(zeroCells c.P T).bind λh=>(zQ g [] h parts f).bind λb=>
  let a:=b.2.2
  if a.any (λt=>b.2.1.contains t||t==d|| !(g.at t).1.isEmpty)|| !Sa a then U else
  J {d:=(d,[],.kr b.1)::a.map λt=>(t,[],.no),ps:=d::a,rb:=d::a,fz:=b.2.1,es:=[.ag (b.1.map (·.2))]}
def M1(c:Ctx)(g:Gam)(T:TypeId)(a x:Operand):Option MS:=
 if !YT c.P T|| !(Y8 c.P T||c.P.cellsOf T==1)then U else
 match Yr g [] a with
 |.mem _=>qd c g T (Rb a) 0 x
 |.pm p o=>qd c g T p o x
 |.pe p i j o k=>BW c g T p i j o k x
 |.pa p o j n k=>BV c g T p o j n k x
 |_=>U
def BQ(c:Ctx)(g0:Gam)(d:Nat)(T n:TypeId)(x y:Operand):Option MS:=
 match VE c.P T with
 |.sl f=>if T=n/\UU c.P f=xk then
   (YD g0 [] y).bind λj=>
    let b:=SO (XM c.P f) j;let g:=frz b.2 g0
    match x,Yr g [] x with
    |_,.nil=>let a:=E.app (.c<|.sl []) b.1<|c.P.cellsOf f;J {d:=[(d,[],.own f a)],ps:=[d],rb:=[d],fz:=b.2,es:=[a]}
    |.tmp t,.own h e=>if h=f/\t≠d/\(g.at t).1=[]then let a:=E.app e b.1<|c.P.cellsOf f;J {d:=[(d,[],.own h a),(t,[],.no)],ps:=[d,t],rb:=[d,t],fz:=b.2,es:=[a]}else U
    |_,.ig p=>(ownOf g p).bind λx=>if x.1=f/\p≠d then let a:=E.app x.2 b.1<|c.P.cellsOf f;J {d:=[(d,[],.own x.1 a),(p,[],.no)],ps:=[d,p],rb:=[d,p],fz:=b.2,es:=[a]}else U
    |_,.fp p i=>(memOf g p).bind λl=>match l[i]? with
     |some (.own h,e)=>if h=f/\p≠d then let a:=E.app e b.1<|c.P.cellsOf f;(UF g p i [(.gh,.c<|.sl [])]).map λk=> {d:=[(d,[],.own h a),(p,[],k)],ps:=[d,p],rb:=[d],fz:=b.2,es:=[a]}else U
     |_=>U
    |_,_=>U
  else U
 |_=>U
def BR(c:Ctx)(g:Gam)(d:Nat)(T:TypeId)(x:Operand):Option MS:=
 match x,Yr g [] x with
 |.tmp t,.own f e=>if t≠d/\(g.at t).1=[]then J {d:=[(d,[],.mem [(.own f,e)]),(t,[],.no)],ps:=[d,t],rb:=[d,t],fz:=[],es:=[]}else U
 |.tmp t,.kr a=>if t≠d/\(g.at t).1=[]then J {d:=[(d,[],.mem a),(t,[],.no)],ps:=[d,t],rb:=[d,t],fz:=[],es:=[]}else U
 |_,_=>U
def BL(g:Gam)(x:Operand):Option<|Nat×Option Nat×TypeId×E:=
 match x,Yr g [] x with
 |.tmp t,.own a e=>if(g.at t).1=[]then J (t,U,a,e)else U
 |_,.ig p=>(ownOf g p).map λy=>(p,U,y.1,y.2)
 |_,.fp p i=>(memOf g p).bind λd=>match d[i]? with
  |some (.own a,e)=>J (p,J i,a,e)
  |_=>U
 |_,_=>U
def Oq(g:Gam)(p:Nat)(i:Option Nat)(ty:TypeId)(e:E):Option TK:=
 match i with
 |none=>J<|.own ty e
 |some i=>UF g p i [(.own ty,e)]
def qc(g:Gam)(T:TypeId)(m:Operand)(f:E->E):Option MS:=
 (BL g m).bind λx=>if x.2.2.1=T then(Oq g x.1 x.2.1 T<|f x.2.2.2).map λk=> {d:=[(x.1,[],k)],ps:=[x.1],rb:=[],fz:=[],es:=[f x.2.2.2]}else U
def BU(c:Ctx)(g:Gam)(T:TypeId)(m k v:Operand):Option MS:=
 match c.P.underlying T with
 |some (.map f _)=>(yQ c.P f).bind λd=>(YD g [] k).bind λb=>(YD g [] v).bind λa=>if !a.2.isEmpty then U else qc g T m λe=>.dj d e b.1 a.1
 |_=>U
def BT(c:Ctx)(g:Gam)(T:TypeId)(m:Operand):Option MS:=if Bo c.P T then qc g T m .fh else U
def mk(c:Ctx)(g:Gam)(o:Oper):Option MS:=
 match o.op,o.dst with
 |.assign x,J d=>qa c g o.type d x
 |.move x,J d=>qa c g o.type d x
 |.store T a x,U=>M1 c g T a x
 |.build T parts,J d=>BS c g d T parts.toList
 |.box T x,J d=>BR c g d T x
 |.mapUpdate T m k v,U=>BU c g T m k v
 | .call {callee:=.builtin .clear,args,argTypes},U=>match args.toList,argTypes.toList with
   | [x],[T]=>BT c g T x
   |_,_=>U
 | .call {callee:=.builtin .append,args,argTypes},J d=>match args.toList,argTypes.toList with
   | [x,y],[T,f]=>BQ c g d T f x y
   |_,_=>U
 |_,_=>U
def zW(c:Ctx)(ops:Array Oper)(g:Gam)(o:Oper):Option ZG:=
 match o.guard with
 |none=>J []
 |some (j,a)=>((ops[j]?).bind (·.dst)).bind λt=>match g.at t with
  |(C,.val (.s u) [])=>if u=c.ix t then J (C++[(t,a)])else U
  |_=>U
def ZI(c:Ctx)(C:ZG):ZG:=C.map λx=>(c.ix x.1,x.2)
def CV(c:Ctx)(g:Gam)(C:ZG)(x a b:Operand):PK:=
 match x,Yr g C x with
 | .tmp t,.val (.s u) []=>if u≠c.ix t then U else(YD g (C++[(t,xk)]) a).bind λy=>(YD g (C++[(t,xw)]) b).map λz=>
   let e:=E.ite (.s<|c.ix t) y.1 z.1
   (.val e<|y.2++z.2,[e])
 |_,_=>U
def Ao(g:Gam)(C:ZG)(o:Oper):Option<|FN×List Nat×List Operand×List TypeId:=
 match o.op with
 |.call {callee:=.value<|.func f,args,argTypes}=>J (.id f,[],args.toList,argTypes.toList)
 | .call {callee:=.value<|.tmp t,args,argTypes}=>match Yr g C (.tmp t)with
   |.val e a=>J (.e e,a,args.toList,argTypes.toList)
   |_=>U
 |_=>U
def Z7K(g:Gam)(t:Nat):Bool:=
 match(g.at t).2 with
 |.own .. |.mem _=>xk
 |_=>xw
def Iv:TK->List Nat
 |.ig p|.fp p _|.pm p _|.pe p _ _ _ _|.pa p _ _ _ _=>[p]
 |.val _ d|.pc _ _ d|.pf _ d=>d
 |.cy _ a=>a
 |_=>[]
def Z4h(ops:Array Oper)(o:Oper):List Nat:=
 match o.guard with
 |none=>[]
 |some (j,_)=>((ops[j]?).bind (·.dst)).toList
def T6(ops:Array Oper)(g:Gam)(o:Oper):List Nat:=
 let a:=(o.op.operands.toList.filterMap λx=>match x with|.tmp t=>J t|_=>U)++Z4h ops o++o.dst.toList;let d:=a++a.flatMap λt=>Iv (g.at t).2
 d++d.flatMap λt=>Iv (g.at t).2
def only(g:Gam)(R:List Nat):Gam:=R.map λt=>(t,g.at t)
def J6(c:Ctx):FN->Bool
 |.id f=>c.fresh f
 |.e _=>xw
def DL(c:Ctx)(g:Gam)(C:ZG)(ty:TypeId)(d:Nat)(f:FN)(sh:List Nat)(args:List Operand)(ts:List TypeId):Option OS:=
 if !(g.at d).2.bu then U else(Kk c.P g C args ts).map λaq_=>
  let fl:=(!(aq_.2.1++sh).isEmpty||aq_.2.2)&& !J6 c f&&XM c.P ty
  {d:=[(d,C,if aq_.2.2&& !(fl||J6 c f)then .pf (.s<|c.ix d) (aq_.2.1++sh)else .val (.s<|c.ix d) (if fl||J6 c f then []else aq_.2.1++sh))],ps:=[d],rb:=[d],fz:=[],efs:=[.call (c.ix d) (ZI c C) f (J6 c f) fl aq_.1],chks:=[]}
inductive AP where
 |op (x:Operand) (ty:TypeId)
 |cap (p:Nat)
 deriving Inhabited
def S6(P:Program):CK->CK->Bool
 |.own a,.own b=>a==b
 |.nil,.own a=>decide (0<P.cellsOf a)
 |.nil,.nil|.nil,.fz|.fz,.fz|.own _,.fz=>xk
 |_,.gh=>xk
 |_,_=>xw
def Jg(P:Program):List CK->List CK->Bool
 | [],[]=>xk
 |a::l,b::r=>S6 P a b&&Jg P l r
 |_,_=>xw
def Ju(P:Program):List CK->List CK->Bool
 | [],[]=>xk
 |a::l,b::r=>(a==b||(match a,b with|.nil,.own d=>decide (0<P.cellsOf d)|.nil,.fz=>xk|_,_=>xw))&&Ju P l r
 |_,_=>xw
def DI(g:Gam)(C:ZG):AP->Option Nat
 |.cap p=>J p
 | .op (.tmp t) _=>match Yr g C (.tmp t)with
   |.mem _=>J t
   |.pm p 0=>J p
   |_=>U
 |_=>U
def PC(g:Gam)(C:ZG):AP->Option Nat
 | .op (.tmp t) _=>match Yr g C (.tmp t)with
   |.own _ _=>J t
   |.ig p=>J p
   |_=>U
 |_=>U
def Rg(c:Ctx)(g:Gam)(C:ZG)(k:OT)(x:AP):Option<|E×Option Nat:=
 match k with
 | .fz=>match x with
   |.op x f=>(YD g C x).bind λh=>let a:=XQ (XM c.P f) h;if a.2.isEmpty then J (a.1,U)else U
   |.cap _=>U
 | .mem l=>(DI g C x).bind λp=>(memOf g p).bind λd=>
   if !Ww d&&Ju c.P (d.map (·.1)) l then J (.ag (d.map (·.2)),J p)else U
 |.own f=>(PC g C x).bind λp=>(ownOf g p).bind λy=>if y.1=f then J (y.2,J p)else U
 |_=>U
def Tc(c:Ctx)(g:Gam)(C:ZG):List OT->List AP->Option (List<|E×Option Nat)
 | [],[]=>J []
 |k::d,x::l=>(Rg c g C k x).bind λa=>(Tc c g C d l).map (a:: ·)
 |_,_=>U
def Li(i q:Nat):OT->TK
 |.mem l=>.mem (l.zipIdx.map λx=>(x.1,.ac (.ext (.s i) q) x.2))
 |.own a=>.own a<|.ext (.s i) q
 |_=>.no
def XO(i:Nat):Nat->List OT->List (E×Option Nat)->Gam
 |q,k::a,(_,J p)::l=>(p,[],Li i q k)::XO i (q+1) a l
 |q,_::a,(_,U)::l=>XO i q a l
 |_,_,_=>[]
def DM(c:Ctx)(g all:Gam)(C:ZG)(d:Nat)(fn:FN)(ks:List OT)(a:List AP):Option OS:=
 if !(g.at d).2.bu then U else(Tc c g C ks a).bind λaq_=>
  let ps:=aq_.filterMap (·.2)
  if !Sa ps||ps.contains d then U else
  J {d:=(d,C,.val (if ps.isEmpty then .s (c.ix d)else .ext (.s<|c.ix d) 0) [])::XO (c.ix d) 1 ks aq_++Wi (d::ps) [d] [] all,ps:=d::ps,rb:=[d],fz:=[],
        efs:=[.ct (c.ix d) (ZI c C) fn ks (aq_.map (·.1))],chks:=[]}
def Vp(args:List Operand)(ts:List TypeId):List AP:=
 match args,ts with
 |x::l,t::r=>.op x t::Vp l r
 |x::l,[]=>.op x 0::Vp l []
 | [],_=>[]
def An(c:Ctx)(g:Gam)(C:ZG)(o:Oper):Option<|FN×List OT×List AP:=
 match o.op with
 |.call {callee:=.value<|.func f,args,argTypes}=>(c.sig f).map λd=>(.id f,d,Vp args.toList argTypes.toList)
 | .call {callee:=.value<|.tmp t,args,argTypes}=>match Yr g C (.tmp t)with
   |.cy f a=>(c.sig f).map λd=>(.id f,d,Vp args.toList argTypes.toList++a.map .cap)
   |.val e _=>(c.sig<|1000000+argTypes.toList.headD 0).map λd=>(.e e,d,Vp args.toList argTypes.toList)
   |_=>U
 |_=>U
def Z3t(g:Gam)(o:Oper):Bool:=match o.dst with|some d=>Z7K g d|none=>xk
def Z3s(g:Gam)(o:Oper):Bool:=match o.dst with|some d=> !(g.at d).2.bu|none=>xk
def Gh(o:Oper)(ps:List Nat):Bool:=match o.dst with|some d=>ps.contains d|none=>xk
def Gg(c:Ctx)(o:Oper):Bool:=match o.dst with|some d=> !decide (d<c.n)|none=>xw
def Z6G(c:Ctx)(g:Gam)(C:ZG)(o:Oper)(x:Operand):Bool:=match o.dst,Yr g C x with
 |some d,.own .. =>c.kp.contains d
 |_,_=>xw
def CU(c:Ctx)(g:Gam)(C:ZG)(o:Oper):PK:=
 match o.op with
 |.pick x a b=>CV c g C x a b
 |.assign _=>if Z3t g o then U else pk c g C o
 |.move x=>if Z3s g o then U else if Z6G c g C o x then(YD g C x).map λb=>(.val b.1 b.2,[b.1])else pk c g C o
 |_=>pk c g C o
def DP(c:Ctx)(a:List Nat)(g:Gam)(C:ZG)(d:Nat)(k:TK)(es:List E):Option OS:=
 if a.contains d then
  match k with
  |.val e []=>if !(g.at d).2.bu then U else J {d:=[(d,C,.val (.s<|c.ix d) [])],ps:=[d],rb:=[d],fz:=[],efs:=[.lt (c.ix d) (ZI c C) e],chks:=es.map λe=>(ZI c C,e)}
  |_=>U
 else if UL d k||leads d k then U else J {d:=[(d,C,k)],ps:=[d],rb:=[d],fz:=[],efs:=[],chks:=es.map λe=>(ZI c C,e)}
def DO(g all:Gam)(m:MS):OS:= {d:=m.d++Wi m.ps m.rb m.fz all++Ua m.fz g,ps:=m.ps,rb:=m.rb,fz:=m.fz,efs:=[],chks:=m.es.map λe=>([],e)}
def QA(c:Ctx)(a:List Nat)(ops:Array Oper)(all:Gam)(o:Oper):Option OS:=
 let g:=only all (T6 ops all o)
 if Gg c o then U else
 (zW c ops g o).bind λC=>
 match An c g C o,o.dst with
 |some (fn,l,h),J d=>DM c g all C d fn l h
 |some _,U=>U
 |none,_=>
 match Ao g C o,o.dst with
 |some (f,n,args,q),J d=>DL c g C o.type d f n args q
 |some _,U=>U
 |none,_=>match CU c g C o,o.dst with
  |some (k,j),J d=>DP c a g C d k j
  |_,_=>if o.guard.isSome then U else(mk c g o).bind λm=>if m.ps.all (λp=>(ZV m.d).contains p)&&m.rb.all (λp=>m.ps.contains p)&&Gh o m.ps then J (DO g all m)else U
def Z7F(ops:Array Oper):List Nat:=
 ops.toList.filterMap λo=>match o.op,o.dst with
  |.assign (.tmp t),J _=>J t
  |.store _ _ (.tmp t),_=>J t
  |.call {callee:=.builtin .append,args, .. },_=>match args.toList with|.tmp t::_=>J t|_=>U
  |_,_=>U
def MY(ops:Array Oper):List Nat:=
 let l:=Z7F ops
 l++ops.toList.flatMap λo=>match o.op,o.dst with
  |.build _ parts,J d=>if l.contains d then parts.toList.filterMap λx=>match x.2 with|.tmp t=>J t|_=>U else []
  |_,_=>[]
def yS(ops:Array Oper):List Nat:=
 ops.toList.filterMap λo=>match o.guard with
  |some (j,_)=>(ops[j]?).bind (·.dst)
  |none=>U
structure XS where
 os:OS
 R:List Nat
 T:List Nat
 deriving Inhabited
def Fg(xs:List XS)(e:Nat):List Nat:=match xs[e]? with|some x=>x.T|none=>[]
def U7(o:Oper):List Nat:=(o.after.toList.filter λe=>Region.binds .any e).map (·.on)
def JX(a:Bool)(xs:List XS)(o:Oper):List Nat:=
 if a then(List.range<|I xs).filter λj=>(U7 o).any λe=>e==j||(Fg xs e).contains j
 else List.range<|I xs
def ze(c:Ctx)(a:Bool)(f:List Nat)(ops:Array Oper):List Oper->Gam->List XS->Option (Gam×List XS)
 | [],g,h=>J (g,h)
 |o::l,g,h=>if a&& !(U7 o).all (λe=>decide (e<I h))then U else(QA c f ops g o).bind λos=>ze c a f ops l (os.d++g)<|h++[{os,R:=T6 ops g o,T:=JX a h o}]
def LJ(a:OS)(g:Gam):Bool:=g.all λx=>(ZV a.d).contains x.1||Vs a.ps a.rb a.fz x.2.2
def Ac(a b:List Nat):Bool:=a.all λt=> !b.contains t
def qy(x:XS)(i:Nat)(y:XS)(j:Nat):Bool:=
 j==i||((y.T.contains i||LJ x.os y.os.d)&&(x.T.contains j||y.T.contains i||(Ac (ZV y.os.d) (ZV x.os.d)&&Ac (ZV y.os.d) x.R)))
def C8(g0:Gam)(xs:List XS):Bool:=
 xs.zipIdx.all λx=>(x.1.os.ps.all λp=>(ZV x.1.os.d).contains p)&&(x.1.os.fz.all λp=>(ZV x.1.os.d).contains p)&&LJ x.1.os g0&&
  (x.1.T.all λj=>j<x.2)&&xs.zipIdx.all λy=>qy x.1 x.2 y.1 y.2
abbrev SS:=List<|Nat×OT
def QZ(c:Ctx)(t:Nat):OT->TK
 |.fz=>.val (.s<|c.ix t) []
 |.own d=>.own d<|.s<|c.ix t
 |.nil=>.nil
 |.mem l=>.mem (l.zipIdx.map λx=>(x.1,.m (c.ix t) x.2))
 |.cy f a=>.cy f a
def Yt(c:Ctx)(S:SS):Gam:=S.map λx=>(x.1,[],QZ c x.1 x.2)
def WU:TK->Option OT
 |.val _ _=>J .fz
 |.own g _=>J<|.own g
 |.nil=>J .nil
 |.mem d=>J (.mem (d.map (·.1)))
 |.cy f a=>J<|.cy f a
 |_=>U
def Vv(keep:List Nat)(g:Gam):List Nat:=keep.flatMap λt=>match g.at t with
 |([],.val _ a)=>a
 |_=>[]
def Ug:TK->OV
 |.val e _=>.v e
 |.own _ e=>.v e
 |.nil=>.v<|.c<|.sl []
 |.mem a=>.m (a.map (·.2))
 |_=>.no
def Sn(i:Nat):OV->Bool
 |.v (.s j)=>i==j
 |.m l=>(l.zipIdx.all λx=>match x.1 with|.m j k=>i==j&&k==x.2|_=>xw)
 |_=>xw
def Rc(keep:List Nat)(g:Gam):SS:=keep.filterMap λt=>if(g.at t).1.isEmpty then(WU (g.at t).2).map λk=>(t,k)else U
def SS.at(S:SS)(t:Nat):Option OT:=
 match S with
 | []=>U
 |(u,x)::r=>if u=t then J x else SS.at r t
def TG(c:Ctx)(S:SS)(g:Gam)(t:Nat):Option<|Nat×OV:=
 let o:=if(g.at t).1.isEmpty then Ug (g.at t).2 else .no
 if Sn (c.ix t) o then U
 else match S.at t,(g.at t).2 with
  |some .nil,.nil=>U
  |none,.no=>U
  |_,_=>J (c.ix t,o)
def MU(c:Ctx)(S:SS)(keep:List Nat)(g:Gam):List<|Nat×OV:=keep.filterMap<|TG c S g
def Gj:EF->List (ZG×E)
 |.lt _ C e=>[(C,e)]
 |.call _ C f _ _ aq_=>(f.es++aq_).map λe=>(C,e)
 |.ct _ C f _ aq_=>(f.es++aq_).map λe=>(C,e)
def qE:OV->List E
 |.v e=>[e]
 |.m l=>l
 |.no=>[]
def Ge(l:List<|ZG×E)(x:ZG×E):Bool:=l.any λy=>RO y.1 x.1&&E.bb x.2 y.2
def qU:List (ZG×E)->List (ZG×E)->List (ZG×E)
 |_,[]=>[]
 |l,x::r=>let q:=qU l r;if Ge (l++q) x then q else x::q
def Tt:EF->Nat
 |.lt i _ _=>i
 |.call i _ _ _ _ _=>i
 |.ct i _ _ _ _=>i
mutual
def E.asks(t:Nat):E->Bool
 |.s u=>t==u
 |.m u _=>t==u
 |.mm u _ _=>t==u
 |.ce _ a b|.fm _ a b|.mn a b|.mx a b=>E.asks t a||E.asks t b
 |.ba a b _|.ai a b _ _ _|.fi a b _|.app a b _=>E.asks t a||E.asks t b
 |.lk _ a b _ _=>E.asks t a||E.asks t b
 |.dj _ a b d=>E.asks t a||E.asks t b||E.asks t d
 |.eo a|.fh a=>E.asks t a
 |.un _ a|.conv _ a|.len a|.ext a _|.ac a _|.bi a _ _|.mk _ a|.ax a|.bv a|.one a|.sz a _|.fl a|.kw a=>E.asks t a
 |.ik a b d _|.upd a b _ d|.di a b _ _ d|.ite a b d=>E.asks t a||E.asks t b||E.asks t d
 |.lit l|.ag l|.pt _ l=>E.cg t l
 |.c _=>xw
def E.cg(t:Nat):List E->Bool
 | []=>xw
 |a::l=>E.asks t a||E.cg t l
end
def XL(t:Nat):EF->Bool
 |.lt _ C e=>C.any (λx=>x.1==t)||E.asks t e
 |.call _ C f _ _ aq_=>C.any (λx=>x.1==t)||E.cg t (f.es++aq_)
 |.ct _ C f _ aq_=>C.any (λx=>x.1==t)||E.cg t (f.es++aq_)
def qw:List EF->Bool
 | []=>xk
 |x::l=> !XL (Tt x) x&&l.all (λy=>Tt y !=Tt x&& !XL (Tt y) x)&&qw l
def Z3N(fix:List Nat)(ops:Array Oper):Bool:=ops.toList.all λo=>match o.dst with
 |some d=> !fix.contains d
 |none=>xk
def Ay(P:Program)(ix:Nat->Nat)(fresh:FuncId->Bool)(sig:FuncId->Option (List OT))(tr fix:List Nat)(n:Nat)(keep:List Nat)(d:Bool)(ops:Array Oper)(S:SS):Option<|Reg×SS:=
 let f:=MY ops;let c:Ctx:= {P,ix,own:=λt=>f.contains t,fresh,sig,tr,n,kp:=keep};let g0:=Yt c S
 (ze c d (yS ops) ops ops.toList g0 []).bind λr=>
  let h:=Vv keep r.1;let g:=frz h r.1;let outs:=MU c S keep g;let efs:=r.2.flatMap λx=>x.os.efs;let chks:=r.2.flatMap λx=>x.os.chks;let a:=(efs.flatMap Gj)++(outs.flatMap λx=>(qE x.2).map λe=>(([]:ZG),e))
  if Z3N fix ops&&C8 g0 r.2&&qw efs&&(efs.all λx=>S.all λy=>c.ix y.1 !=Tt x)then
   J ({efs,chks:=qU a chks,outs},Rc keep g)
  else U
end Vm
namespace Vm
open Go
inductive Stm where
 |au (r:Reg)
 |skip
 |seq (a b:Stm)
 |cond (c:E) (a b:Stm)
 |block (id:Nat) (a:Stm)
 |loop (keep:List Nat) (a:Stm)
 |exit (id:Nat)
 |ret
 deriving Inhabited
def Db(ops:Array Oper):List Oper->List Nat->List Nat
 | [],_=>[]
 |o::l,seen=>
  (o.op.operands.toList.filterMap λx=>match x with|.tmp t=>if seen.contains t then U else J t|_=>U)++
  Db ops l (match o.dst with|some d=>d::seen|none=>seen)
def MX(ops:Array Oper):List Nat:=
 ops.toList.filterMap λo=>match o.dst,o.op with
  |some d,.assign _|some d,.alloc _|some d,.box _ _=>J d
  |_,_=>U
def Iz(ops:Array Oper):List Nat:=
 ops.toList.filterMap λo=>match o.dst,o.op with
  |some d,.call {callee:=.value _, .. }=>J d
  |some d,_=>if(yS ops).contains d then J d else U
  |none,_=>U
def UT(f:Array Oper->List Nat):Code->List Nat
 |.region _ d _=>f d
 |.seq a b=>UT f a++UT f b
 |.cond (.tmp t) a b=>t::UT f a++UT f b
 |.cond _ a b=>UT f a++UT f b
 |.block _ a|.loop a|.scope a=>UT f a
 |_=>[]
def Kv:List Nat->List Nat->List Nat
 |a,[]=>a.reverse
 |a,t::l=>Kv (if a.contains t then a else t::a) l
def pos:List Nat->Nat->Nat
 | [],_=>0
 |u::l,t=>if u=t then 0 else pos l t+1
def TA(P:Program):OT->OT->Bool
 |.own a,.own b=>a==b
 |.nil,.own a=>decide (0<P.cellsOf a)
 |.nil,.nil|.nil,.fz|.fz,.fz|.own _,.fz=>xk
 |.mem a,.mem b=>Jg P a b
 |.cy f a,.cy g b=>f==g&&a==b
 |_,_=>xw
def S7(P:Program)(S R:SS):Bool:=R.all λx=>match S.at x.1 with|some k=>TA P k x.2|none=>xw
def Q7(P:Program)(S:Option SS)(R:Option SS):Bool:=match S,R with|none,_=>xk|some S,J R=>S7 P S R|some _,U=>xw
def Z6i(P:Program):CK->CK->CK
 |a,b=>if S6 P a b then b else if S6 P b a then a else match a,b with|.gh,_|_,.gh=>.gh|_,_=>.fz
def Z6j(P:Program):OT->OT->Option OT
 |.mem a,.mem b=>if I a=(I b) then J (.mem<|(a.zip b).map λx=>Z6i P x.1 x.2)else U
 |.mem _,_|_,.mem _=>U
 |a,b=>if TA P a b then J b else if TA P b a then J a else J .fz
def IV(P:Program)(S R:SS):SS:=S.filterMap λx=>(R.at x.1).bind λk=>(Z6j P x.2 k).map λk=>(x.1,k)
def yZ(P:Program):Option SS->Option SS->Option SS
 |none,b=>b
 |a,U=>a
 |some a,J b=>J<|IV P a b
def BP(P:Program):List SS->Option SS
 | []=>U
 |S::l=>yZ P (J S)<|BP P l
structure Flow where
 n:Option SS
 x:List<|Nat×SS
 r:List SS
structure FC where
 P:Program
 ix:Nat->Nat
 fresh:FuncId->Bool
 sig:FuncId->Option (List OT)
 tr:List Nat
 fix:List Nat
 n:Nat
 keep:List Nat
def Z41(S:SS):SS:=S.map λx=>(x.1,match x.2 with|.mem l=>.mem (l.map λk=>match k with|.own _=>.fz|k=>k)|k=>k)
def B3(P:Program)(f:SS->Option (Stm×Flow)):Nat->SS->Option SS
 |0,S=>J S
 |k+1,S=>match f S with
  |none=>B3 P f k<|Z41 S
  |some x=>match x.2.n with
  |none=>J S
  |some R=>if S7 P R S then J S else B3 P f k<|IV P S R
def comp(c:FC):Code->SS->Option (Stm×Flow)
 |.skip,S|.label _,S=>J (.skip,⟨J S,[],[]⟩)
 |.region _ f d,S=>(Ay c.P c.ix c.fresh c.sig c.tr c.fix c.n c.keep d f S).map λx=>(.au x.1,⟨J x.2,[],[]⟩)
 | .seq a b,S=>(comp c a S).bind λx=>match x.2.n with
   |none=>J x
   |some R=>(comp c b R).map λy=>(.seq x.1 y.1,⟨y.2.n,x.2.x++y.2.x,x.2.r++y.2.r⟩)
 | .cond (.tmp t) a b,S=>if S.at t=J .fz then(comp c a S).bind λx=>(comp c b S).bind λy=>
   let M:=yZ c.P x.2.n y.2.n
   if Q7 c.P x.2.n M&&Q7 c.P y.2.n M then J (.cond (.s<|c.ix t) x.1 y.1,⟨M,x.2.x++y.2.x,x.2.r++y.2.r⟩)else U else U
 | .block id a,S=>(comp c a S).bind λx=>
   let M:=yZ c.P x.2.n (BP c.P ((x.2.x.filter λy=>y.1==id).map (·.2)))
   if Q7 c.P x.2.n M&&x.2.x.all (λy=>y.1 !=id||Q7 c.P (J y.2) M)then
    J (.block id x.1,⟨M,x.2.x.filter λy=>y.1 !=id,x.2.r⟩)else U
 | .loop a,S=>(B3 c.P (comp c a) 4 S).bind λH=>(comp c a H).bind λx=>
   if S7 c.P S H&&Q7 c.P x.2.n (J H)then J (.loop (H.map λy=>c.ix y.1) x.1,⟨U,x.2.x,x.2.r⟩)else U
 |.exit id,S=>J (.exit id,⟨U,[(id,S)],[]⟩)
 |.scope a,S=>comp c a S
 |.ret,S=>J (.ret,⟨U,[],[S]⟩)
 |_,_=>U
inductive RK where
 |v|ag (n:Nat)|one
 deriving Inhabited
structure Fn where
 n:Nat
 keep:List Nat
 body:Stm
 fq:List<|Nat×RK
 deriving Inhabited
def LT(P:Program)(d:Nat->Nat)(f:Func):List<|Nat×RK:=
 f.results.toList.map λr=>match r with|.tmp t=>(d t,.v)|.cell a t=>(d a,if Y8 P t then .ag (P.cellsOf t)else .one)
def R9(P:Program)(S:SS):ResultVar->Bool
 |.tmp t=>match S.at t with|some (.mem _)|some (.cy _ _)|none=>xw|_=>xk
 |.cell t a=>match S.at t with|some (.mem l)=>YT P a&&l.all (λk=>k !=.gh)&&(if Y8 P a then I l==P.cellsOf a else decide (0<I l))|_=>xw
def Re(ks:List OT):SS:=ks.zipIdx.filterMap λx=>match x.1 with
 |.fz=>U
 |k=>J (x.2,k)
def Rl:ResultVar->Nat
 |.tmp t=>t
 |.cell t _=>t
def R8(P:Program)(f:Func)(fin:SS)(S:SS):Bool:=f.results.toList.all (R9 P S)&&S7 P S fin
def ON(f:Func)(fin:SS):Bool:=f.results.toList.all λr=>(fin.at<|Rl r).isNone
def Z7j(P:Program)(f:Func)(fin:SS):Option SS->Bool
 |some R=>R8 P f fin R
 |none=>xk
def MG(P:Program)(a:Nat->Nat)(f:Func)(ks:List OT)(fin:SS)(fl:Flow):Bool:=
 Z7j P f fin fl.n&&fl.r.all (R8 P f fin)&&fl.x.isEmpty&&(List.range<|I ks).all (λt=>a t==t)
def RU(ks:List OT):List Nat:=(Re ks).map (·.1)
def zi(f:Func):List Nat:=f.results.toList.filterMap λr=>match r with
 |.tmp t=>J t
 |_=>U
def V2(P:Program)(fresh:FuncId->Bool)(sig:FuncId->Option (List OT))(ks:List OT)(fin:SS)(f:Func):Option Fn:=
 f.body.bind λcode=>
  let keep:=Kv []<|(List.range<|I ks)++UT (λa=>MX a++Db a a.toList []) code;let ix:=pos<|keep++Kv [] ((UT Iz code).filter λt=> !keep.contains t);let S:=ks.zipIdx.map λx=>(x.2,x.1)
  (comp {P,ix,fresh,sig,tr:=zi f,fix:=RU ks,n:=f.ntmps,keep} code S).bind λx=>
   if MG P ix f ks fin x.2 then
    J {n:=I keep,keep,body:=x.1,fq:=LT P ix f}
   else U
end Vm
namespace Vm
open Go
structure GH where
 F:Nat->Prop
 bl:Nat->Nat->Option Nat
 K:Nat->Prop
structure Ok (B:Nat) (G:Nat->Prop) (w:World) (h:GH):Prop where
 base:B<=xz (xj w)
 bz:∀b,h.F b->b<xz (xj w)
 cz:∀b,h.F b->G b\/B<=b
 fj:∀b,G b->h.F b
 aw:∀t i b,h.bl t i=J b->B<=b/\b<xz (xj w)/\¬h.F b
 inj:∀t i u j b,h.bl t i=J b->h.bl u j=J b->t=u/\i=j
 cx:∀b,h.K b->b<xz (xj w)
 cp:∀t i b,h.bl t i=J b->¬h.K b
 fk:∀b,h.F b->G b\/¬h.K b
def GH.fo(h:GH)(big:Bool)(sh:List Nat)(b:Nat):Prop:=h.F b\/∃p∈sh,∃i,(big=xk\/0<i)/\h.bl p i=J b
def GH.ext(h:GH)(sh:List Nat)(b:Nat):Prop:=h.F b\/∃p∈sh,∃i,h.bl p (i+1)=J b
def GH.cd{h:GH}{sh b}(a:h.F b):h.ext sh b:=.inl a
def GH.it{h:GH}{b}(a:h.ext [] b):h.F b:=by
 obtain a|⟨p,d,_⟩:=a;exact a;grind
def GH.kz{h:GH}{sh r b}(a:h.ext sh b):h.ext (sh++r) b:=by
 obtain a|⟨p,d,x⟩:=a;exact .inl a;exact .inr ⟨p,by simp[d],x⟩
def GH.iu{h:GH}{sh r b}(a:h.ext r b):h.ext (sh++r) b:=by
 obtain a|⟨p,d,x⟩:=a;exact .inl a;exact .inr ⟨p,by simp[d],x⟩
def Z15(P:Program)(B:Nat)(w:World)(h:GH)(o:Option Nat)(ty:TypeId)(x:V)(v:Value):Prop:=
 ∃l a,x=.sl l/\0<P.cellsOf ty/\(∀y∈l,y.an<|P.cellsOf ty)/\w.ownsRow B ty (P.cellsOf ty) v (I l) a/\v.ownBlock=o/\
  ∀(i:Nat) c,(flat l)[i]?=J c->∃u,a[i]?=J u/\Rd w h.F c u
def Z16(B:Nat)(w:World)(h:GH)(o:Option Nat)(x:V)(v:Value):Prop:=
 ∃id f g b a d,x=.mp id f g/\v=.map (J b)/\o=J b/\B<=b/\(id=0\/id=b+1)/\w.heap[b]?=J (.map a d)/\I f=a.size/\I g=a.size/\
  (∀i c,f[i]?=J c->Rd w h.F c (a.getD i default).key)/\∀i c,g[i]?=J c->Rd w h.F c (a.getD i default).val
def OwnV(P:Program)(B:Nat)(w:World)(h:GH)(o:Option Nat)(ty:TypeId)(x:V)(v:Value):Prop:=Z15 P B w h o ty x v\/Z16 B w h o x v
def Rh:Option Nat->Nat
 |none=>1
 |some i=>i+1
def RelC(P:Program)(B:Nat)(s:St)(w:World)(h:GH)(o:Option Nat)(k:CK)(e:E)(v:Value):Prop:=
 match k with
 |.fz=>∃x,eval s e=J x/\x.one=xk/\Rd w h.F x v
 |.own a=>∃x,eval s e=J x/\OwnV P B w h o a x v
 |.nil=>v=.slice U 0 0/\eval s e=J (.sl [])
 |.gh=>v.oneCell'=xk
def RelCs(P:Program)(B:Nat)(s:St)(w:World)(h:GH)(t:Nat)(cs:List<|CK×E)(vs:Array Value):Prop:=
 vs.size=I cs/\∀i c,cs[i]?=J c->RelC P B s w h (h.bl t<|i+1) c.1 c.2 (vs.getD i xy)
def RelK(P:Program)(B:Nat)(s:St)(w:World)(h:GH)(r:Nat->Option Value)(t:Nat)(v:Value):TK->Prop
 |.no=>True
 |.val e d=>∃x,eval s e=J x/\Rd w (h.ext d) x v
 |.own u e=>∃x,eval s e=J x/\OwnV P B w h (h.bl t 1) u x v
 |.nil=>v=.slice U 0 0
 |.mem g=>∃b vs T,h.bl t 0=J b/\v=.pointer (J ⟨b,0,U⟩)/\w.heap[b]?=J (.cells vs T (0,0))/\RelCs P B s w h t g vs
 |.kr g=>∃vs,v=.agg vs/\RelCs P B s w h t g vs
 |.ig p=>r p=J v
 |.fp p i=>∃b,h.bl p 0=J b/\w.cell? ⟨b,i,U⟩=J v
 |.pm p o=>∃b,h.bl p 0=J b/\v=.pointer (J ⟨b,o,U⟩)
 | .pc e o d=>∃x b q,∃vs:Nat->Value,eval s e=J x/\v=.pointer (J ⟨b,q+o,U⟩)/\h.ext d b/\(∀c∈x.pc,c.one=xk)/\
   (∀i,i<I x.pc->w.cell? ⟨b,q+i,U⟩=J (vs i))/\∀i c,x.pc[i]?=J c->Rd w (h.ext d) c (vs i)
 |.pe p i j o k=>∃n q,h.bl p (Rh i)=J n/\(∃l,eval s j=J (.int l (q:Nat)))/\v=.pointer (J ⟨n,q*k+o,U⟩)
 |.pa p o j n k=>∃b q,h.bl p 0=J b/\(∃l,eval s j=J (.int l (q:Nat)))/\q<n/\v=.pointer (J ⟨b,o+q*k,U⟩)
 |.pf e d=>∃x,eval s e=J x/\Rd w (h.fo xk d) x v
 |.cy f a=>∃vs,v=.func (.func f) #[] vs/\vs.size=I a/\∀(i p:Nat),a[i]?=J p->∃b,h.bl p 0=J b/\vs[i]?=J (.pointer<|J ⟨b,0,U⟩)
def holds(s:St)(C:ZG):Prop:=∀x∈C,get s x.1=.v (.bool x.2)
theorem VP s:holds s []:=λ_ h=>ZgN
def B4{s C D}:holds s (C++D)↔holds s C/\holds s D:=by
 unfold holds;constructor;simp_all;grind
def Z4p{s c C D}(h:RO C D=xk)(d:holds s<|ZI c D):holds s<|ZI c C:=by
 intro x a;simp only[ZI,Zhq]at a;obtain⟨y,f,rfl⟩:=a;refine d _ ?_;simp only[RO]at h;simp[ZI];grind
structure RelG (c:Ctx) (B:Nat) (G:Nat->Prop) (s:St) (a:Act) (w:World) (h:GH) (g:Gam):Prop where
 ok:Ok B G w h
 Y:∀t,holds s (ZI c (g.at t).1)->(g.at t).2.bu=xw->∃v,a.tmps[t]?=J v/\RelK c.P B s w h (λp=>a.tmps[p]?) t v (g.at t).2
 skip:∀t,¬holds s (ZI c (g.at t).1)->a.tmps.getD t xy=xy
theorem Act.al(a:Act)(t:Nat)v(h:a.tmps[t]?=J v):a.eval (.tmp t)=v:=by
 simp_all[Act.eval,Zhd,ZhE]
def IN{g C t k}(h:look g C t=k)(a:k.bu=xw):(g.at t).2=k/\RO (g.at t).1 C=xk:=by
 grind [look,TK.bu]
section
variable {c:Ctx}{B:Nat}{G:Nat->Prop}{s:St}{a:Act}{w:World}{h:GH}{g:Gam}{C:ZG}
theorem RelG.look(o:RelG c B G s a w h g)(j:holds s<|ZI c C){t k}(n:look g C t=k)(l:k.bu=xw):
  ∃v,a.tmps[t]?=J v/\RelK c.P B s w h (λp=>a.tmps[p]?) t v k/\(g.at t).2=k:=by
 let⟨q,f⟩:=IN n l;let⟨v,r,d⟩:=o.Y t (Z4p f j) Zgd;simp_all
theorem zT{v x}(a:Vc v=J x)w G:Rd w G x v:=by
 unfold Vc at a;split at a<;>first
  |(simp at a;subst a;first|exact .int _ _|exact .bool _|exact .str _|exact .nil _ _ (Zjc _)|exact .mg|exact .im|exact .io)
  | (split at a<;>first
    | (rename_i d
       simp at a;subst a;rw[Zig d.1,Zig d.2];exact .fn _)
    |simp at a)
  |simp at a
theorem At{v x}(a:Vc v=J x):x.one=xk:=by
 unfold Vc at a;split at a<;>first
  |(simp at a;subst a;rfl)
  |(split at a<;>first|(simp at a;subst a;rfl)|simp at a)
  |simp at a
def OwnV.rd{P o ty x v}(S:OwnV P B w h o ty x v){G'}(n:∀b,h.F b->G' b)(X:∀b,o=J b->G' b):Rd w G' x v:=by
 obtain⟨l,L,rfl,W,g,j,N,y⟩|⟨id,T,L,b,M,k,rfl,rfl,rfl,_,hid,p,q,G,r,H⟩:=S;case inr=>exact .mp id T L b k M hid Zgd p q G (λi c d=>(r i c d).mono n) λi c d=>(H i c d).mono n
 let⟨K,O⟩:=j;obtain⟨rfl,Q⟩|⟨b,cap,a,rfl,_,p,t,f,z,A⟩:=O;have:=Zj0 Q;subst this;exact .nil _ _ Z0;simp[Value.ownBlock]at N;refine .sl l b 0 cap _ (λi=>a.getD i xy) t f Zgd g (λi d=> ?_) λi c d=> ?_;rw[ZhZ,Zhl w b i a ty _ p];have:i<a.size:=by rw[z];exact Zhj d Zgc
 simp_all;let⟨u,C,R⟩:=y i c d;have D:a.getD i xy=u:=by
  rw[<-A,ZhL]at C;split at C;simp_all;simp at C
 rw[D];exact R.mono n
def RelC.cell{P o k e v}(a:RelC P B s w h o k e v):v.oneCell'=xk:=by
 cases k with
 |fz=>let⟨x,_,d,f⟩:=a;rw[f.ir,d]
 |own j=>
  obtain⟨x,_,⟨l,n,_,_,_,⟨_,g⟩,_⟩|⟨_,_,_,_,_,_,_,rfl,_⟩⟩:=a;obtain⟨rfl,_⟩|⟨_,_,_,rfl,_⟩:=g<;>rfl;rfl
 |nil=>obtain⟨rfl,_⟩:=a;rfl
 |gh=>exact a
def RelC.rd{P o k e v}(d:RelC P B s w h o k e v)(q:k≠.gh){G'}(f:∀b,h.F b->G' b)(r:∀j,k=.own j->∀b,o=J b->G' b):
  ∃x,eval s e=J x/\x.one=xk/\Rd w G' x v:=by
 cases k with
 |fz=>let⟨x,a,n,p⟩:=d;exact⟨x,a,n,p.mono f⟩
 |own j=>
  let⟨x,a,g⟩:=d;refine⟨x,a,?_,g.rd f Zgd⟩;obtain⟨l,t,rfl,_⟩|⟨_,_,_,_,_,_,rfl,_⟩:=g<;>rfl
 |nil=>obtain⟨rfl,a⟩:=d;exact⟨_,a,rfl,.nil _ _ Z0⟩
 |gh=>simp_all
def UV{l xs}(h:YG s l=J xs):I xs=I l/\∀(i:Nat) e,l[i]?=J e->∃x,xs[i]?=J x/\eval s e=J x:=by
 induction l generalizing xs with
 |nil=>simp[YG,Zh7]at h;subst h;exact⟨rfl,Z1⟩
 |cons e l a=>
  simp[YG,Zh6,Zha]at h;grind
def Gt{l}(h:∀e∈l,∃x,eval s e=J x):∃a,YG s l=J a:=by
 induction l with
 |nil=>exact⟨[],rfl⟩
 |cons e l f=>
  let⟨x,d⟩:=h e Z1;grind [YG]
def U9{l}(h:∀x∈l,x.one=xk):flat l=l:=by
 induction l with
 |nil=>rfl
 |cons x l f=>
  rw[RW,f λy d=>h y (by simp[d])];have a:=h x Z1;cases x<;>first|rfl|simp[V.one]at a
def RelCs.rd{P t cs vs}(H:RelCs P B s w h t cs vs)(Q:Ww cs=xw){G'}(C:∀b,h.F b->G' b)(S:UR cs=xk->∀i b,h.bl t (i+1)=J b->G' b):
  ∃x,eval s (.ag (cs.map (·.2)))=J (.agg x)/\I x=I cs/\Rd w G' (.agg x) (.agg vs):=by
 let⟨K,D⟩:=H;have key:∀i k e,cs[i]?=J (k,e)->∃x,eval s e=J x/\x.one=xk/\Rd w G' x (vs.getD i xy):=by
  intro i k e a;refine(D i _ a).rd ?_ C ?_;grind [Ww,List.any_eq_true];grind [UR,List.any_eq_true]
 let⟨n,p⟩:=Gt (s:=s) (l:=cs.map (·.2)) (by
  intro e q;simp only[Zhq]at q;obtain⟨⟨k,O⟩,R,rfl⟩:=q;grind [List.getElem?_of_mem])
 let⟨G,L⟩:=UV p;have o:I n=I cs:=by simpa using G
 have d:∀i x,n[i]?=J x->x.one=xk/\Rd w G' x (vs.getD i xy):=by
  intro i x a;have f:i<I cs:=by
   have:=(Zh9.1 a).1;omega
  let⟨y,N,u,A⟩:=key i cs[i].1 cs[i].2 (by simp[f]);let⟨z,r,j⟩:=L i (cs[i].2) (by simp[f]);rw[a]at r;cases r;rw[N]at j;cases j;exact⟨u,A⟩
 have g:∀x∈n,x.one=xk:=λx M=>by
  grind [List.getElem?_of_mem]
 refine⟨n,?_,o,.agg n vs Z0 g λi x a=>(d i x a).2⟩;simp_all[eval,TR,U9]
def L7{P t b vs T cs}(q:h.bl t 0=J b)(u:w.heap[b]?=J (.cells vs T (0,0)))(j:RelCs P B s w h t cs vs)(r:Ww cs=xw)
  {z} (a:eval s (.pt U (cs.map (·.2)))=J z) {G'} (p:∀b,h.F b->G' b) (C:∀i b,h.bl t i=J b->G' b):Rd w G' z<|.pointer<|J ⟨b,0,U⟩:=by
 simp[eval,Zh6]at a;let⟨y,l,a⟩:=a;simp only[LE]at a;split at a;rename_i f;simp at a;subst a;have d:=λx g=>Zhn.1 f x g;let⟨x,g,G,k⟩:=j.rd r (G':=G') p Zgc;simp[eval,l,TR,U9 d,V.agg.injEq]at g;subst g;cases k with
 |agg _ _ A n o=>
  refine .ptr y b 0 (λi=>vs.getD i xy) Zgc n (λi D=> ?_) o;rw[ZhZ,Zhl w b i vs T _ u];simp_all
 cases a
def RelG.fd(k:RelG c B G s a w h g){p ty e}(j:ownOf g p=J (ty,e)):
  ∃v,a.tmps[p]?=J v/\∃x,eval s e=J x/\OwnV c.P B w h (h.bl p 1) ty x v:=by
 unfold Vm.ownOf at j;split at j;rename_i n o f;obtain⟨rfl,rfl⟩:=j;let⟨v,l,d⟩:=k.Y p (by rw[f];exact VP s) (by rw[f];rfl);rw[f]at d;exact⟨v,l,d⟩;grind
def RelG.de(l:RelG c B G s a w h g){p cs}(j:memOf g p=J cs):
  ∃b vs T,h.bl p 0=J b/\a.tmps[p]?=J (.pointer<|J ⟨b,0,U⟩)/\w.heap[b]?=J (.cells vs T (0,0))/\RelCs c.P B s w h p cs vs:=by
 unfold Vm.memOf at j;split at j;rename_i k f;let⟨v,r,d⟩:=l.Y p (by rw[f];exact VP s) (by rw[f];rfl);rw[f]at d;obtain⟨b,vs,T,n,rfl,o,q⟩:=d;simp_all;grind
def O9:TK->Nat×Nat
 |.ig p=>(p,1)
 |.fp p i=>(p,i+1)
 |_=>(0,0)
def RelG.gl(y:RelG c B G s a w h g){k ty e}(f:ownAt g k=J (ty,e)){t v}(r:RelK c.P B s w h (λp=>a.tmps[p]?) t v k):
  ∃x,eval s e=J x/\OwnV c.P B w h (h.bl (O9 k).1 (O9 k).2) ty x v:=by
 cases k with
 |ig p=>
  let⟨u,H,x,K,D⟩:=y.fd f;have:u=v:=by
   have q:a.tmps[p]?=J v:=r;rw[H]at q;cases q;rfl
  subst this;exact⟨x,K,D⟩
 |fp p i=>
  simp[Vm.ownAt,Zh6]at f;let⟨N,C,f⟩:=f;let⟨b,vs,T,z,_,A,F,o⟩:=y.de C;let⟨M,j,d⟩:=r;rw[z]at j;cases j;rw[Zhl w b i vs T _ A]at d;have l:vs.getD i xy=v:=by simp[d]
  split at f;rename_i L O n;simp at f;obtain⟨rfl,rfl⟩:=f;have:=o i _ n;rw[l]at this;exact this;grind
 |_=>simp[Vm.ownAt]at f
def RelG.place(n:RelG c B G s a w h g){p i ty e}(f:Vm.ownAt g (Ql p i)=J (ty,e)):
  ∃v x,RelK c.P B s w h (λp=>a.tmps[p]?) 0 v (Ql p i)/\eval s e=J x/\OwnV c.P B w h (h.bl p<|Rh i) ty x v:=by
 obtain _|i:=i;let⟨u,C,x,q,k⟩:=n.fd f;exact⟨u,x,C,q,k⟩;have l:=f;simp[Ql,Vm.ownAt,Zh6]at f;let⟨F,A,f⟩:=f;let⟨b,vs,T,r,_,y,o,t⟩:=n.de A;split at f;rename_i D H j;have z:i<vs.size:=by rw[o];exact(Zh9.1 j).1
 have d:RelK c.P B s w h (λp=>a.tmps[p]?) 0 (vs.getD i xy)<|Ql p<|J i:=
  ⟨b,r,by rw[Zhl w b i vs T _ y];simp_all⟩
 let⟨x,q,k⟩:=n.gl l d;exact⟨_,x,d,q,k⟩;grind
def FK(L:RelG c B G s a w h g){k t v}(R:a.tmps[t]?=J v)(r:RelK c.P B s w h (λp=>a.tmps[p]?) t v k){e sh}(d:We g k t=J (e,sh)):
  ∃x,eval s e=J x/\Rd w (h.ext sh) x v:=by
 cases k with
 |val z A=>simp[We,Zho]at d;obtain⟨rfl,rfl⟩:=d;exact r
 |own M z=>
  simp[We,Zho]at d;obtain⟨rfl,rfl⟩:=d;let⟨x,y,q⟩:=r;exact⟨x,y,q.rd (λb l=>GH.cd l) λb l=>.inr ⟨t,Z1,0,l⟩⟩
 |nil=>
  simp[We,Zho]at d;obtain⟨rfl,rfl⟩:=d;have:=r;subst this;exact⟨.sl [],rfl,.nil _ _ Z0⟩
 |kr H=>
  simp only[We]at d;split at d;grind;rename_i Q;obtain⟨vs,rfl,C⟩:=r;let⟨x,y,_,N⟩:=C.rd (G':=h.ext<|if UR H=xk then [t]else []) Zgc (λb l=>GH.cd l) (λq i b l=>by rw[Zhi q];exact .inr ⟨t,Z1,i,l⟩);simp_all
 |ig p=>
  simp only[We,Zha]at d;let⟨⟨M,z⟩,D,d⟩:=d;simp at d;obtain⟨rfl,rfl⟩:=d;let⟨u,O,x,y,q⟩:=L.fd D;have:u=v:=by
   have K:a.tmps[p]?=J v:=r;rw[O]at K;cases K;rfl
  subst this;exact⟨x,y,q.rd (λb l=>GH.cd l) λb l=>.inr ⟨p,Z1,0,l⟩⟩
 |fp p i=>
  simp only[We,Zha]at d;let⟨⟨M,z⟩,D,d⟩:=d;simp at d;obtain⟨rfl,rfl⟩:=d;let⟨x,y,q⟩:=L.gl D (show RelK c.P B s w h (λp=>a.tmps[p]?) t v _ from r);exact⟨x,y,q.rd (λb l=>GH.cd l) λb l=>.inr ⟨p,Z1,i,l⟩⟩
 |no=>simp[We]at d
 |mem H=>simp[We]at d
 |pm p o=>simp[We]at d
 |pc z o A=>simp[We]at d
 |pe p i j o k=>simp[We]at d
 |pa p o j n k=>simp[We]at d
 |cy f F=>simp[We]at d
 |pf z A=>simp[We]at d
end
end Vm
namespace Vm
open Go
open Go.RowKit (Below)
def TK.is:TK->Bool
 |.own .. |.mem _|.kr _=>xk
 |_=>xw
structure Step (B:Nat) (ps rb fz:List Nat) (w w':World) (h h':GH):Prop where
 below:Below B w w'
 same:∀b,b<xz (xj w)->(∀p∈ps,∀i,h.bl p i≠J b)->w'.heap[b]?=w.heap[b]?
 F:∀b,h.F b->h'.F b
 bl:∀t,t∉ps->t∉fz->h'.bl t=h.bl t
 oq:∀t,t∉rb->h'.bl t 0=h.bl t 0
 sr:∀t i b,t∉ps->t∈fz->h.bl t (i+1)=J b->h'.F b
 K:h'.K=h.K
section
variable {P:Program}{B:Nat}{G:Nat->Prop}{s:St}{w w':World}{h h':GH}{ps rb fz:List Nat}
def Step.iq(g:Step B ps rb fz w w' h h')(a:Ok B G w h){b}(d:h.F b):=
 g.same b (a.bz b d) λp _ i f=>(a.aw p i b f).2.2 d
def Step.cr(g:Step B ps rb fz w w' h h')(a:Ok B G w h){t i b}(k:t∉ps)(d:h.bl t i=J b):=
 g.same b (a.aw t i b d).2.1 λp l j f=>k (by have:=(a.inj t i p j b d f).1;simp_all)
def Step.ia(f:Step B ps rb fz w w' h h')(a:Ok B G w h){sh}(j:∀p∈ps,p∉sh):Same (h.ext sh) w w':=by
 intro b d;obtain d|⟨p,k,i,g⟩:=d;exact f.iq a d;exact f.cr a Zgc g
def Step.gz(g:Step B ps rb fz w w' h h'){sh}(j:∀p∈ps,p∉sh):∀b,h.ext sh b->h'.ext sh b:=by
 intro b f;obtain f|⟨p,l,i,k⟩:=f;exact .inl<|g.F b f;have a:=λa=>j p a l;by_cases d:p∈fz;exact .inl<|g.sr p i b a d k;exact .inr ⟨p,l,i,by rw[g.bl p a d];exact k⟩
def Step.oo(f:Step B ps rb fz w w' h h')(a:Ok B G w h){big sh}(j:∀p∈ps,p∉sh):Same (h.fo big sh) w w':=by
 intro b d;obtain d|⟨p,k,i,_,g⟩:=d;exact f.iq a d;exact f.cr a Zgc g
def Step.dp(g:Step B ps rb fz w w' h h')(o:∀t∈rb,t∈ps){big sh}(n:∀p∈ps,p∉sh):∀b,h.fo big sh b->h'.fo big sh b:=by
 intro b j;obtain j|⟨p,l,i,f,k⟩:=j;exact .inl<|g.F b j;have a:=λa=>n p a l;by_cases d:p∈fz;cases i with
 |zero=>exact .inr ⟨p,l,0,f,by rw[g.oq p λq=>a Zgd];exact k⟩
 |succ i=>exact .inl<|g.sr p i b a d k
 exact .inr ⟨p,l,i,f,by rw[g.bl p a d];exact k⟩
def Z7L{e k v n xs}(d:w.ownsRow B e k v n xs)(l:∀b,v.ownBlock=J b->w'.heap[b]?=w.heap[b]?):w'.ownsRow B e k v n xs:=by
 refine⟨d.1,?_⟩;obtain o|⟨g,cap,a,rfl,f,h,j⟩:=d.2;grind;exact .inr ⟨g,cap,a,rfl,f,by rw[l g rfl];exact h,j⟩
def OwnV.keep{o ty x v}(D:OwnV P B w h o ty x v)(q:Same h.F w w')(a:∀b,h.F b->h'.F b)(z:∀b,o=J b->w'.heap[b]?=w.heap[b]?):OwnV P B w' h' o ty x v:=by
 obtain⟨l,r,rfl,g,j,k,n,p⟩|⟨id,G,r,b,t,f,rfl,rfl,rfl,g,hid,j,k,n,p,y⟩:=D;case inr=>exact .inr ⟨id,G,r,b,t,f,rfl,rfl,rfl,g,hid,by rw[z b rfl];exact j,k,n,λi c d=>(p i c d).keep q a,λi c d=>(y i c d).keep q a⟩
 refine .inl ⟨l,r,rfl,g,j,Z7L k Zgd,n,λi c d=> ?_⟩;let⟨u,C,A⟩:=p i c d;exact⟨u,C,A.keep q a⟩
def RelC.keep{o k e v}(d:RelC P B s w h o k e v)(j:Same h.F w w')(a:∀b,h.F b->h'.F b)(n:∀b,o=J b->w'.heap[b]?=w.heap[b]?):RelC P B s w' h' o k e v:=by
 cases k with
 |fz=>let⟨x,f,g,l⟩:=d;exact⟨x,f,g,l.keep j a⟩
 |own p=>let⟨x,f,g⟩:=d;exact⟨x,f,g.keep j a n⟩
 |nil=>exact d
 |gh=>exact d
def RelCs.keep{t cs vs}(f:RelCs P B s w h t cs vs)(j:Same h.F w w')(a:∀b,h.F b->h'.F b)(d:∀i,h'.bl t (i+1)=h.bl t (i+1))(n:∀i b,h.bl t (i+1)=J b->w'.heap[b]?=w.heap[b]?):RelCs P B s w' h' t cs vs:=
 ⟨f.1,λi g l=>by rw[d];exact(f.2 i g l).keep j a λb k=>n _ b k⟩
def Z33{k}(hc:Vs ps rb fz k=xk):(∀p∈ps,UL p k=xw)/\(∀p∈rb,leads p k=xw)/\Jb fz k=xw:=by
 simp_all[Vs,Zhb,Zke,Zkm]
def RelK.keep{tm W t v k}(A:RelK P B s w h tm t v k)(g:Step B ps rb fz w w' h h')(r:Ok B G w h)(a0:∀t∈rb,t∈ps)
  (L:t∉ps) (C:t∈fz->k.is=xw) (O:Vs ps rb fz k=xk) (a1:∀p,p∉ps->W p=tm p):RelK P B s w' h' W t v k:=by
 let⟨D,Q,y⟩:=Z33 O;have Y:Same h.F w w':=λb N=>g.iq r N;cases k with
 |no=>trivial
 |val e sh=>
  let⟨x,M,l⟩:=A;have u:=λp d y=>ZgT;exact⟨x,M,l.keep (g.ia r u)<|g.gz u⟩
 |pf e sh=>
  let⟨x,M,l⟩:=A;have u:=λp d y=>ZgT;exact⟨x,M,l.keep (g.oo r u)<|g.dp a0 u⟩
 |own ty e=>
  let⟨x,M,l⟩:=A;refine⟨x,M,?_⟩;rw[g.bl t L (λR=>by cases C R)];exact l.keep Y g.F λb N=>g.cr r L N
 |nil=>exact A
 |mem cs=>
  let⟨b,vs,T,l,z,H,K⟩:=A;have C:t∉fz:=λR=>by cases C R
  exact⟨b,vs,T,by rw[g.bl t L C];exact l,z,by rw[g.cr r L l];exact H,K.keep Y g.F (λi=>by rw[g.bl t L C]) λi b N=>g.cr r L N⟩
 |kr cs=>
  let⟨vs,z,K⟩:=A;exact⟨vs,z,K.keep Y g.F (λi=>by rw[g.bl t L (λR=>by cases C R)]) λi b N=>g.cr r L N⟩
 |ig p=>
  exact(a1 p (λd=>by have:=D p d;simp[UL]at this)).trans A
 |fp p i=>
  have d:p∉ps:=λd=>by have:=D p d;simp[UL]at this
  let⟨b,l,z⟩:=A;exact⟨b,by rw[g.oq p Zgc];exact l,by rw[ZhX (w:=w) (a:=⟨b,i,U⟩)<|g.cr r d l];exact z⟩
 |pm p o=>
  let⟨b,l,z⟩:=A;exact⟨b,by rw[g.oq p (λd=>by have:=Q p d;simp[leads]at this)];exact l,z⟩
 |pc e o sh=>
  let⟨x,b,q,vs,M,l,z,H,K,X⟩:=A;have u:=λp d y=>ZgT;exact⟨x,b,q,vs,M,l,g.gz u b z,H,λi S=>by rw[(g.ia r u).cell z];exact K i S,λi ck S=>(X i ck S).keep (g.ia r u)<|g.gz u⟩
 |pe p i j o k=>
  have d:p∉ps:=λd=>by have:=D p d;simp[UL]at this
  have Z:=λd=>by simp[Jb]at y;exact y d
  let⟨n,q,l,z,H⟩:=A;exact⟨n,q,by rw[g.bl p d Z];exact l,z,H⟩
 |pa p o j n k=>
  have d:p∉rb:=λd=>by have:=Q p d;simp[leads]at this
  let⟨b,q,l,z,H,K⟩:=A;exact⟨b,q,by rw[g.oq p d];exact l,z,H,K⟩
 |cy f a2=>
  let⟨vs,l,z,H⟩:=A;refine⟨vs,l,z,λi p S=> ?_⟩;let⟨b,K,X⟩:=H i p S;have d:=λd=>by have:=Q p d;simp[leads]at this;exact this Zgc
  exact⟨b,by rw[g.oq p d];exact K,X⟩
end
def PRes(c:Ctx)(B:Nat)(G:Nat->Prop)(s:St)(w:World)(h:GH)(a:Nat->Option Value)(d:Nat)(k:TK)(v:Value)(w':World):Prop:=
 ∃h',Step B [d] [d] [] w w' h h'/\Ok B G w' h'/\RelK c.P B s w' h' a d v k
section
variable {c:Ctx}{B:Nat}{G:Nat->Prop}{s:St}{a:Act}{w:World}{h:GH}{g:Gam}{C:ZG}
def Step.refl ps rb w h:Step B ps rb [] w w h h:=⟨Zhw _ _,Z1,Z1,Z1,Z1,Z1,rfl⟩
theorem PRes.az{f d k v}(a:Ok B G w h)(g:RelK c.P B s w h f d v k):PRes c B G s w h f d k v w:=
 ⟨h,Step.refl _ _ _ _,a,g⟩
def MM(r:RelG c B G s a w h g)(n:holds s<|ZI c C){x k}(hx:Yr g C x=k)(o:k.bu=xw):
  (∃v,x=.const v)\/(∃t,x=.tmp t/\look g C t=k/\∃v,a.tmps[t]?=J v/\a.eval x=v/\RelK c.P B s w h (λp=>a.tmps[p]?) t v k)\/∃f,x=.func f/\ .val (.c<|.fn f) []=k:=by
 cases x with
 |const v=>simp
 |tmp t=>
  have j:=hx;let⟨v,l,d,_⟩:=r.look n j o;exact .inr<|.inl ⟨t,rfl,j,v,l,Act.al a t v l,d⟩
 |global q=>grind [Yr,TK.bu]
 |func f=>exact .inr<|.inr ⟨f,rfl,hx⟩
def WT(k:RelG c B G s a w h g)(n:holds s<|ZI c C){x e sh}(d:YD g C x=J (e,sh)):
  ∃y,eval s e=J y/\Rd w (h.ext sh) y (a.eval x):=by
 unfold YD at d;cases x with
 |tmp t=>
  have o:(Yr g C<|.tmp t).bu=xw:=by
   cases r:Yr g C _<;>first|rfl|simp_all[We]
  let⟨v,l,j,_⟩:=k.look n rfl o;rw[Act.al a t v l];exact FK k l j d
 |const v=>
  simp[Yr]at d;split at d;rename_i heq;simp at heq;subst heq;simp[We,Zho]at d;obtain⟨rfl,rfl⟩:=d;exact⟨_,rfl,.nil _ _ Z0⟩;rename_i heq;simp at heq;subst heq;split at d;rename_i x p;simp[We,Zho]at d;obtain⟨rfl,rfl⟩:=d;exact⟨x,rfl,zT p _ _⟩;grind [We];simp_all;simp_all;grind
 |global q=>grind [Yr,We]
 |func f=>
  obtain⟨rfl,rfl⟩:=d;exact⟨.fn f,rfl,.fn f⟩
def Qk(j:RelG c B G s a w h g)(d:holds s<|ZI c C){x e sh}(f:Yr g C x=.val e sh):=WT j d (by unfold YD;rw[f];rfl)
def Jy(o:RelG c B G s a w h g)(l:holds s<|ZI c C){x}(j:Yr g C x=.nil):a.eval x=.slice U 0 0:=by
 obtain⟨v,rfl⟩|⟨t,rfl,_,v,p,k,d⟩|⟨f,_,n⟩:=MM o l j rfl;rotate_left 2;cases n;simp[Yr]at j;split at j;rename_i heq;simp at heq;subst heq;rfl;grind;simp_all;simp_all;grind;rw[k];exact d
def Rd.F{x v}(hx:Rd w (h.ext []) x v):Rd w h.F x v:=hx.mono λ_ a=>GH.it a
def Rd.gn{G' G'' x v}(hx:Rd w G' x v)(a:x.bp=xk):Rd w G'' x v:=by
 cases hx<;>first|exact .int _ _|exact .bool _|exact .str _|simp[V.bp]at a
def Z9E{op x y z}(a:Xi op x y=J z){G' G'' v u}(j:Rd w G' x v)(g:Rd w G'' y u)T o p:
  ∃r,(do eqGuard op T o p v u;binOp op T v u:Sem Value).run c.P w=.ok r w/\Rd w h.F z r:=by
 cases j<;>cases g<;>(try (cases op<;>simp[Xi]at a;done))
 rename_i k n q l;cases op<;>simp only[Xi]at a<;>(try split at a)<;>(try simp[Zh7]at a)<;>(try subst a)<;>(try (simp at a;done));all_goals
  first|refine⟨.int _ _,?_,.int _ _⟩|refine⟨.bool _,?_,.bool _⟩
  first
   |(rename_i d;subst d;simp[eqGuard,binOp,Op.intArith,Op.intBits,Op.intCmp];done)
   |(rename_i d;obtain⟨rfl,f⟩:=d;simp[eqGuard,binOp,Op.intDiv,f];done)
   | (rename_i d;have:¬l<0:=by omega
      simp[eqGuard,binOp,Op.shift,this];done)
def Pa{neg x y z}(d:SP neg x y=J z){G' G'' v u}(k:Rd w G' x v)(j:Rd w G'' y u){T}(f:AF c.P T=xk)l n:
  ∃r,(do eqGuard (if neg then .neq else .eql) T l n v u;binOp (if neg then .neq else .eql) T v u:Sem Value).run c.P w=.ok r w/\Rd w h.F z r:=by
 have g:c.P.underlying T=J .bool:=by
  unfold AF at f;split at f;assumption;simp at f
 cases k with
 |bool a=>
  cases j with
  |bool b=>
   simp[SP]at d;subst d;refine⟨.bool _,?_,.bool _⟩;cases neg;simp_all[run_eql_bool,eqGuard];simp_all[run_neq_bool,eqGuard]
  |_=>simp[SP]at d
 |_=>simp[SP]at d
def Z9P{op x z}(a:Ss op x=J z){G' v}(d:Rd w G' x v):∃r,(Op.unary op v).run c.P w=.ok r w/\Rd w h.F z r:=by
 cases d<;>(try (cases op<;>simp[Ss]at a;done))
 .rename_i k n;cases op<;>simp only[Ss,Zh7]at a<;>first|(simp at a;done)|skip
  subst a;exact⟨.int _ _,Zh2,.int _ _⟩
 .rename_i b;cases op<;>simp[Ss]at a<;>first|(simp at a;done)|skip
  subst a;exact⟨.bool _,Zh2,.bool _⟩
def Z9F{k x z}(a:QY k x=J z){G' v}(f:Rd w G' x v){S T}(d:(c.P.underlying S).isSome=xk)(j:c.P.underlying T=J (.int k)):
  ∃r,(convert S T v).run c.P w=.ok r w/\Rd w h.F z r:=by
 let⟨g,d⟩:=Zih.1 d;cases f<;>(try (simp[QY]at a;done));simp[QY,Zh7]at a;subst a;exact⟨.int _ _,by simp_all[convert,ZhQ,Conv.intToInt],.int _ _⟩
def Z9H{x z}(a:Qa x=J z){G' v}(f:Rd w G' x v){T ty e}(d:c.P.underlying T=J (.slice e)):
  ∃r,(Builtin.len_ #[T] ty #[v]).run c.P w=.ok r w/\Rd w h.F z r:=by
 cases f with
 |nil g cap y=>
  simp[Qa,Zh7]at a;subst a;exact⟨.int .i64 0,ZgQ,.int _ _⟩
 |sl l b o cap k vs j n p q t u=>
  simp[Qa,Zh7]at a;subst a;exact⟨.int .i64<|I l,ZgQ,.int _ _⟩
 |_=>simp[Qa]at a
def Z9K{x y z}(a:Qf x y=J z){G' G'' v u}(f:Rd w G' x v)(d:Rd w G'' y u)ts ty:
  ∃r,(Builtin.min_ ts ty #[v,u]).run c.P w=.ok r w/\Rd w h.F z r:=by
 cases f<;>(try (simp[Qf]at a;done));cases d<;>(try (simp[Qf]at a;done));rename_i k n g j;simp[Qf]at a;subst a;exact⟨.int k _,Zh2,.int _ _⟩
def Z9I{x y z}(a:Qe x y=J z){G' G'' v u}(f:Rd w G' x v)(d:Rd w G'' y u)ts ty:
  ∃r,(Builtin.max_ ts ty #[v,u]).run c.P w=.ok r w/\Rd w h.F z r:=by
 cases f<;>(try (simp[Qe]at a;done));cases d<;>(try (simp[Qe]at a;done));rename_i k n g j;simp[Qe]at a;subst a;exact⟨.int k _,Zh2,.int _ _⟩
def Z9G{x z i}(a:TV x i=J z){G' v}(h:Rd w G' x v):∃r,(Instr.extract v i).run c.P w=.ok r w/\Rd w G' z r:=by
 cases h<;>(try (simp[TV]at a;done));rename_i l vs f g;simp[TV]at a;have d:i<vs.size:=by rw[f];exact(Zh9.1 a).1
 refine⟨vs.getD i xy,?_,g i z a⟩;simp[Instr.extract,d]
theorem Uf{P T}(a:YT P T=xk):∃d i,P.underlying T=J d/\P.info? T=J i/\P.cellsOf T=i.size/\∀w,(isAgg T).run P w=.ok (Y8 P T) w:=by
 simp[YT]at a;let⟨d,f⟩:=Zih.1 a.1;let⟨i,g⟩:=Zih.1 a.2;refine⟨d,i,f,g,by simp[Program.cellsOf,g],λw=> ?_⟩;unfold isAgg Y8;rw[ZhV,ZhQ f w,f];cases d<;>rfl
theorem Um{P T i}(a:P.info? T=J i)w:(Go.sizeOf T).run P w=.ok i.size w:=by
 simp[Go.sizeOf,typeInfo,a]
def LW{P T}(f:YT P T=xk)(g:Y8 P T=xw){b o v}(hc:w.cell? ⟨b,o,U⟩=J v):
  (Instr.loadAt T<|.pointer<|J ⟨b,o,U⟩).run P w=.ok v w:=by
 let⟨d,i,h,j,k,a⟩:=Uf f;simp_all[Instr.loadAt,Instr.sureAddr,loadVar]
def jq{P T}(f:YT P T=xk)(g:Y8 P T=xk){b o}(vs:List Value)(p:I vs=P.cellsOf T)(hc:∀i u,vs[i]?=J u->w.cell? ⟨b,o+i,U⟩=J u):
  (Instr.loadAt T<|.pointer<|J ⟨b,o,U⟩).run P w=.ok (.agg vs.toArray) w:=by
 let⟨d,i,h,k,q,a⟩:=Uf f;have n:=run_loadCells_list (P:=P) w ⟨b,o,U⟩ vs (λj u l=>by simp_all[ZiZ]);simp_all[Instr.loadAt,Instr.sureAddr,loadVar,Um]
theorem Sc{x z}(h:YV x=J z):x=z/\z.one=xk:=by
 unfold YV at h;grind
def Z8k{p cs}:∀ {i},Td p i cs=xk->∀j x,cs[j]?=J x->x.2=E.m p (i+j):=by
 induction cs with
 |nil=>simp
 |cons y r f=>
  intro i a j x d;let⟨k,e⟩:=y;cases e<;>simp[Td]at a<;>first|(cases a;done)|skip
  grind
theorem AI{p i cs x}(N:Td p i cs=xk)(w:0<I cs)(hx:eval s (.ag (cs.map (·.2)))=J (.agg x))(o:∀(j:Nat) e,cs[j]?=J e->∃y,eval s e.2=J y/\y.one=xk):
  eval s (.mm p i<|I cs)=J (.agg x):=by
 simp[eval,Zha]at hx;let⟨f,F,M⟩:=hx;let⟨H,a⟩:=UV F;have d:I f=I cs:=by simpa using H
 have B:∀j,j<I cs->∃l,get s p=.m l/\∃y,l[i+j]?=J y/\f[j]?=J y:=by
  intro j k;let⟨y,B,h⟩:=a j (cs[j].2) (by simp[k]);rw[Z8k N j cs[j] Z1]at h;simp[eval]at h;split at h;rename_i l H;rw[Zh6]at h;let⟨Q,h,g⟩:=h;obtain⟨rfl,_⟩:=Sc g;simp_all;grind
 let⟨l,t,_⟩:=B 0 w;have C:∀j,j<I cs->l[i+j]?=f[j]? :=by
  intro j k;let⟨P,d,y,g,r⟩:=B j k;rw[t]at d;cases d;rw[g,r]
 have K:i+I cs<=I l:=by
  have g:=C (I cs-1) Z0;have r:f[I cs-1]?=J f[I cs-1]:=Z1;rw[r]at g;have:=(Zh9.1 g).1;omega
 have L:(l.drop i).take (I cs)=f:=by
  apply ZiV;intro j;rw[ZhL];split;simp_all;simp_all
 have A:∀y∈f,y.one=xk:=by
  intro y D;let⟨j,k⟩:=ZhH D;have u:j<I cs:=by have:=(Zh9.1 k).1;omega
  let⟨z,O,G⟩:=o j cs[j] Z1;let⟨R,q,n⟩:=a j (cs[j].2) (by simp[u]);rw[k]at q;cases q;rw[O]at n;cases n;exact G
 simp_all[TR,V.agg.injEq,U9,eval]
def RelCs.part{P t cs vs}(f:RelCs P B s w h t cs vs){o n}(j:I ((cs.drop o).take n)=n):
  ∀i d,((cs.drop o).take n)[i]?=J d->RelC P B s w h (h.bl t<|o+i+1) d.1 d.2 (vs.getD (o+i) xy)/\vs[o+i]?=J (vs.getD (o+i) xy):=by
 intro i d a;rw[ZhL]at a;split at a;rw[ZhF]at a;refine⟨f.2 _ _ a,?_⟩;have g:o+i<vs.size:=by rw[f.1];exact(Zh9.1 a).1
 simp_all;grind
def RelCs.kj{P t cs vs}(H:RelCs P B s w h t cs vs){o n}(r:I ((cs.drop o).take n)=n)(Y:Ww ((cs.drop o).take n)=xw){G'}(M:∀b,h.F b->G' b)
  (ho:UR ((cs.drop o).take n)=xk->∀i b,h.bl t (i+1)=J b->G' b):
  ∃x,eval s (.ag (((cs.drop o).take n).map (·.2)))=J (.agg x)/\I x=n/\(∀(j:Nat) e,((cs.drop o).take n)[j]?=J e->∃y,eval s e.2=J y/\y.one=xk)/\
   Rd w G' (.agg x) (.agg ((vs.toList.drop o).take n).toArray)/\∀i u,((vs.toList.drop o).take n)[i]?=J u->vs[o+i]?=J u:=by
 have Q:=H.part r;have R:I ((vs.toList.drop o).take n)=n:=by
  have D:=H.1;simp at r⊢;omega
 have A:∀i,i<n->((vs.toList.drop o).take n)[i]?=vs[o+i]? :=by
  intro i a;rw[ZhL,Zhi a,ZhF,Zis]
 have key:∀i k e,((cs.drop o).take n)[i]?=J (k,e)->∃x,eval s e=J x/\x.one=xk/\Rd w G' x (vs.getD (o+i) xy):=by
  intro i k e a;refine(Q i _ a).1.rd ?_ M ?_;grind [Ww,List.any_eq_true];grind [UR,List.any_eq_true]
 have d:∀e∈((cs.drop o).take n).map (·.2),∃x,eval s e=J x:=by
  intro e N;obtain⟨⟨k,X⟩,hm,rfl⟩:=Zhq.1 N;grind [List.getElem?_of_mem]
 let⟨p,C⟩:=Gt d;let⟨O,S⟩:=UV C;have q:I p=n:=by rw[O,ZhM,r]
 have G:∀i x,p[i]?=J x->x.one=xk/\Rd w G' x (vs.getD (o+i) xy):=by
  intro i x a;have f:i< I ((cs.drop o).take n):=by
   have:=(Zh9.1 a).1;omega
  let⟨y,W,D,L⟩:=key i ((cs.drop o).take n)[i].1 ((cs.drop o).take n)[i].2 Zgc;let⟨z,K,l⟩:=S i (((cs.drop o).take n)[i].2) Zgc;rw[a]at K;cases K;rw[W]at l;cases l;exact⟨D,L⟩
 have g:∀x∈p,x.one=xk:=λx T=>by
  grind [List.getElem?_of_mem]
 refine⟨p,?_,q,λj e Z=> ?_,.agg p _ Zgd g λi x a=> ?_,λi u a=> ?_⟩;simp_all[eval,ZhA,TR,U9];grind;have f:i<n:=by have:=(Zh9.1 a).1;omega
 have:((vs.toList.drop o).take n).toArray.getD i xy=vs.getD (o+i) xy:=by
  simp[Zhd,ZiN,A i f]
 simp_all;grind
end
end Vm
namespace Vm
open Go
open Go.RowKit (Below)
section
variable {c:Ctx}{B:Nat}{G:Nat->Prop}{s:St}{a:Act}{w:World}{h:GH}{g:Gam}{C:ZG}
def Has(c:Ctx)(B:Nat)(s:St)(w:World)(h:GH)(a:Nat->Option Value)(d:Nat)(k:TK)(m:Sem Value):Prop:=
 ∃v,m.run c.P w=.ok v w/\RelK c.P B s w h a d v k
def GQ{x z o}(h:Y1 x o=J z):x.pc[o]?=J z:=by
 unfold Y1 at h;rw[Zh6]at h;let⟨y,a,d⟩:=h;rw[a,(Sc d).1]
def yl{x z o n}(h:Uv x o n=J z):o+n<=I x.pc/\z=.agg ((x.pc.drop o).take n):=by
 simp_all[Uv,Zh7]
def BG{T}(A:YT c.P T=xk){x b q o}{vs:Nat->Value}{sh}(C:∀y∈x.pc,y.one=xk)
  (j:∀i,i<I x.pc->w.cell? ⟨b,q+i,U⟩=J (vs i)) (r:∀i y,x.pc[i]?=J y->Rd w (h.ext sh) y (vs i)) {e} (n:eval s e=J x)
  (p:∃z,eval s (if Y8 c.P T then .bi e o (c.P.cellsOf T)else .ac e o)=J z) F d:
  Has c B s w h F d (.val (if Y8 c.P T then .bi e o (c.P.cellsOf T)else .ac e o) sh) (Instr.loadAt T<|.pointer<|J ⟨b,q+o,U⟩):=by
 let⟨z,g⟩:=p;cases f:Y8 c.P T with
 |false=>
  rw[f]at g;simp[eval,n]at g⊢;have t:=GQ g;have a:=(Zh9.1 t).1;exact⟨vs o,LW A f Zgd,z,by simp[eval,n];exact g,Zgd⟩
 |true=>
  rw[f]at g;simp[eval,n]at g⊢;obtain⟨D,rfl⟩:=yl g;have l:I ((x.pc.drop o).take<|c.P.cellsOf T)=c.P.cellsOf T:=Zge;refine⟨.agg ((List.range<|c.P.cellsOf T).map λi=>vs<|o+i).toArray,jq A f _ Z1 (λi u k=> ?_),_,by simp[eval,n];exact g,?_⟩;have a:i<c.P.cellsOf T:=by simpa using(Zh9.1 k).1
  have:vs (o+i)=u:=by simpa[a]using k
  rw[<-this,Zik];exact j _ Z0;refine .agg _ _ (by simp[l]) Zgc λi y k=> ?_;have a:i<c.P.cellsOf T:=by have:=(Zh9.1 k).1;omega
  rw[ZhL,Zhi a,ZhF]at k;have:((List.range<|c.P.cellsOf T).map λi=>vs<|o+i).toArray.getD i xy=vs (o+i):=by
   simp[a]
  rw[this];exact r _ y k
def Rd.gp{G' G'' x v}(hx:Rd w G' x v)(q:∀y∈x.cells,y.bp=xk)(G:∀l,x≠.aq l):Rd w G'' x v:=by
 cases hx with
 |agg j vs d g h=>exact .agg j vs d g λi y r=>(h i y r).gn<|q y<|Zhh r
 |aq l vs d g=>simp_all
 |int k n=>exact .int _ _
 |bool b=>exact .bool _
 |str b=>exact .str _
 |nil a cap A=>exact .nil _ _ A
 |sl l b o cap k vs d g h p u z=>simp_all[V.cells,V.bp]
 |ptr j b o vs d g h p=>simp_all[V.cells,V.bp]
 |fn f=>exact .fn f
 |cy f j vs d g=>simp_all[V.cells,V.bp]
 |im=>exact .im
 |io=>exact .io
 |mg=>exact .mg
 |mp id B C b t D F d g h p u z=>exact absurd (q (.mp id B C)<|by simp[V.cells]) (by simp[V.bp])
def Jw(q:RelG c B G s a w h g)(l:holds s<|ZI c C){x k}(hx:Yr g C x=k)(d:k.bu=xw):
  ((∃e,k=.val e [])\/k=.nil)\/∃t,x=.tmp t/\(∃v,a.tmps[t]?=J v/\a.eval x=v/\RelK c.P B s w h (λp=>a.tmps[p]?) t v k)/\(g.at t).2=k/\RO (g.at t).1 C=xk:=by
 obtain⟨v,rfl⟩|⟨t,rfl,o,v,z,n,j⟩|⟨f,_,y⟩:=MM q l hx d;rotate_left 2;grind;left;simp[Yr]at hx;split at hx;exact .inr hx.symm;split at hx;exact .inl ⟨_,hx.symm⟩;subst hx;simp[TK.bu]at d;simp_all;simp_all;subst hx;simp[TK.bu]at d;let⟨r,u⟩:=IN o d;simp_all
def RelK.ls{a t d v k}(g:RelK c.P B s w h a t v k)(f:k.mb=xk):RelK c.P B s w h a d v k:=by
 cases k<;>first|exact g|simp[TK.mb]at f
def XN(n:RelG c B G s a w h g)(j:holds s<|ZI c C){x k}(hx:Yr g C x=k)(q:k.mb=xk)d:
  RelK c.P B s w h (λp=>a.tmps[p]?) d (a.eval x) k:=by
 have r:k.bu=xw:=by cases k<;>first|rfl|simp[TK.mb]at q
 obtain(⟨e,rfl⟩|rfl)|⟨t,rfl,⟨v,z,l,f⟩,_⟩:=Jw n j hx r;let⟨y,u,o⟩:=Qk n j hx;exact⟨y,u,o⟩;exact Jy n j hx;rw[l];exact f.ls q
def Z8d(n:RelG c B G s a w h g)(q:holds s<|ZI c C){x k es}(f:CS g C x=J (k,es))d:
  RelK c.P B s w h (λp=>a.tmps[p]?) d (a.eval x) k:=by
 unfold CS at f;split at f;rename_i A;obtain⟨rfl,rfl⟩:=f;exact XN n q rfl A d;split at f;rename_i t F e _ l;obtain⟨rfl,rfl⟩:=f;let⟨v,j,_⟩:=n.look q (show look g C t=_ from l) rfl;rw[Act.al a t v j];exact j;rename_i t r _ l;obtain⟨rfl,rfl⟩:=f;let⟨v,j,⟨b,vs,T,u,y,_⟩,_⟩:=n.look q (show look g C t=_ from l) rfl;rw[Act.al a t v j];exact⟨b,u,y⟩;rename_i t r _ l;simp only[Zha]at f;let⟨⟨e,D⟩,z,f⟩:=f;obtain⟨rfl,rfl⟩:=f;let⟨v,j,o,_⟩:=n.look q (show look g C t=_ from l) rfl;rw[Act.al a t v j];exact FK n j o z;grind
def RV{fl b v y}(k:eval s b.1=J y)(f:Rd w (h.ext b.2) y v)(o:∃z,eval s (XQ fl b).1=J z):
  ∃z,eval s (XQ fl b).1=J z/\Rd w (h.ext (XQ fl b).2) z v:=by
 let⟨z,a⟩:=o;unfold XQ at a⊢;split;simp_all;split;rename_i j d;simp[j,d,eval,k]at a;refine⟨z,by simp_all[eval,Zhk],?_⟩;unfold WA at a;split at a;grind;rename_i p;split at a;rename_i g;simp at a;subst a;exact f.gp Zgd λl n=>p l n;grind;simp_all
def Z7Y(o:RelG c B G s a w h g)(n:holds s<|ZI c C){ty x k es}(j:CE c g C ty x=J (k,es))(t:∀e∈es,∃z,eval s e=J z)d:
  RelK c.P B s w h (λp=>a.tmps[p]?) d (a.eval x) k:=by
 unfold CE at j;split at j;rename_i e l;obtain⟨rfl,rfl⟩:=j;exact XN o n l rfl d;rename_i e p D l;split at j;simp at j;obtain⟨rfl,rfl⟩:=j;let⟨y,u,q⟩:=Qk o n l;have:=RV (s:=s) (w:=w) (h:=h) (fl:=xk) (b:=(e,p::D)) u q (by simp_all[XQ]);let⟨z,F,A⟩:=this;exact⟨z,by simp_all[XQ],by simp_all[XQ]⟩;grind;rename_i l;obtain⟨rfl,rfl⟩:=j;exact XN o n l rfl d;rename_i f r l;obtain⟨rfl,rfl⟩:=j;exact XN o n l rfl d;grind
def Z8e(H:RelG c B G s a w h g)(A:holds s<|ZI c C){x k es}(l:CT g C x=J (k,es))(D:∀e∈es,∃z,eval s e=J z)o(N:o.op=.nilCheck x)d:
  ∃v,(execOp a.eval o).run c.P w=.ok (.value v) w/\RelK c.P B s w h (λp=>a.tmps[p]?) d v k:=by
 unfold execOp;simp[N];unfold CT at l;split at l;rename_i O j;obtain⟨rfl,rfl⟩:=l;obtain⟨t,rfl,⟨v,Q,F,⟨b,vs,T,f,rfl,_⟩⟩,_⟩:=(Jw H A j rfl).resolve_left Z1;rw[F];exact⟨_,rfl,b,f,rfl⟩;rename_i p q j;obtain⟨rfl,rfl⟩:=l;let⟨b,f,u⟩:=XN H A j rfl d;rw[u];exact⟨_,rfl,b,f,rfl⟩;rename_i e R j;obtain⟨rfl,rfl⟩:=l;let⟨y,K,n⟩:=Qk H A j;let⟨z,r⟩:=D _<|List.Mem.head _;generalize a.eval x=v at n;simp[eval,K]at r;unfold Tj at r;split at r;cases n with
 |ptr _ b o vs f u L M=>exact⟨_,rfl,_,K,.ptr _ b o vs f u L M⟩
 cases r;grind
theorem IG(W:RelG c B G s a w h g){T}(D:YT c.P T=xk){p o k}(l:yV c g T p o=J k){b}(q:h.bl p 0=J b)d:
  Has c B s w h (λp=>a.tmps[p]?) d k (Instr.loadAt T<|.pointer<|J ⟨b,o,U⟩):=by
 unfold yV at l;simp only[Zh6]at l;let⟨N,Q,l⟩:=l;let⟨b',vs,K,F,_,H,j⟩:=W.de Q;rw[q]at F;cases F;split at l;rename_i r;split at l;rename_i y;let⟨R,O,h0⟩:=y;simp at l;let⟨x,M,Y,L,z,X⟩:=j.kj R O (G':=h.ext<|if UR ((N.drop o).take<|c.P.cellsOf T)=xk then [p]else []) (λb q=>GH.cd q) (λS i b q=>by rw[Zhi S];exact .inr ⟨p,Z1,i,q⟩);refine⟨_,jq D r ((vs.toList.drop o).take<|c.P.cellsOf T) ?_ (λi u hi=> ?_),?_⟩;have h2:=j.1;simp_all;grind [cell_of_row];rw[<-l];refine⟨.agg x,?_,z⟩;grind [AI];grind;rename_i r;have n:Y8 c.P T=xw:=by simpa using r
 split at l;rename_i e t;simp at l;let⟨x,M,F,z⟩:=j.2 o _ t;have A:o<vs.size:=ZgL;refine⟨vs.getD o xy,LW D n ZgU,?_⟩;rw[<-l];exact⟨x,M,z.mono λb q=>GH.cd q⟩;rename_i Z e t;simp at l;have A:o<vs.size:=ZgL;have f:w.cell? ⟨b,o,U⟩=J (vs.getD o xy):=ZgU;refine⟨vs.getD o xy,LW D n f,?_⟩;rw[<-l];exact⟨b,q,f⟩;rename_i e t;simp at l;let⟨C,_⟩:=j.2 o _ t;have A:o<vs.size:=ZgL;have f:w.cell? ⟨b,o,U⟩=J (vs.getD o xy):=ZgU;refine⟨vs.getD o xy,LW D n f,?_⟩;rw[<-l];exact C;grind
def zJ{x i z n k ag}(d:Yb x i n k ag=J z):∃a f j,x=.agg a/\i=.int f (j:Nat)/\j<n/\I a=n*k/\
  (if ag then J (V.agg<|(a.drop<|j*k).take k)else a[j*k]?)=J z:=by
 unfold Yb at d;split at d;rename_i a f i;split at d;rename_i l;let⟨g,o,h⟩:=l;obtain⟨j,rfl⟩:=Zhp g;exact⟨a,f,j,rfl,rfl,Z0,h,Zgp⟩;grind;grind
theorem Z5X(hr:RelG c B G s a w h g){T}(hT:YT c.P T=xk){p o j m f k}(K:BE c g T p o j m f=J k)(a0:∀e∈E9 k,∃z,eval s e=J z)
  {b q} (Q:h.bl p 0=J b) {ki} (hj:eval s j=J (.int ki (q:Nat))) (hq:q<m) d:
  Has c B s w h (λp=>a.tmps[p]?) d k (Instr.loadAt T<|.pointer<|J ⟨b,o+q*f,U⟩):=by
 unfold BE at K;simp only[Zh6]at K;let⟨O,hm,K⟩:=K;let⟨b',vs,ty,h1,_,hh,R⟩:=hr.de hm;rw[Q]at h1;cases h1;split at K;rename_i L;let⟨Z,hk,h0,a9,hd⟩:=L;simp only[Zh7]at K;let⟨x,hx,Y,X,a5,b0⟩:=R.kj Z hd (G':=h.F) Z1 Zgd;have H:eval s (if Td (c.ix p) o ((O.drop o).take<|m*f)=xk then E.mm (c.ix p) o (I<|(O.drop o).take<|m*f) else .ag (((O.drop o).take<|m*f).map (·.2)))=J (.agg x):=by
  split;rename_i hp;exact AI hp (by rw[Z];exact h0) hx X;exact hx
 generalize (if Td _ o _=xk then E.mm _ o (I<|(O.drop o).take _) else .ag _)=ee at H K;subst K;let⟨z,N⟩:=a0 _<|List.Mem.head _;simp[eval,H,hj,Zhk]at N;let⟨a7,b1,C,S,a2,a4,a6,r⟩:=zJ N;cases S;have a3:C=q:=by
  simp at a2;omega
 subst a3;have a8:C*f+f<=m*f:=by
  rw[<-Zit];exact ZhS _ a4
 have t:∀i,i<m*f->w.cell? ⟨b,o+i,U⟩=J (vs.getD (o+i) xy):=by
  intro i n;have a1:i< I ((O.drop o).take<|m*f):=by rw[Z];exact n
  have:=(R.part Z i _<|Zh8 a1).2;rw[Zhl w b _ vs ty _ hh,this]
 have A:∀i y,x[i]?=J y->y.one=xk/\Rd w h.F y (vs.getD (o+i) xy):=by
  intro i y n;have W:i<m*f:=by rw[<-Y];exact(Zh9.1 n).1
  cases a5 with
  |agg _ _ h1 h2 h3=>
   have:=h3 i y n;have hg:((vs.toList.drop o).take<|m*f).toArray.getD i xy=vs.getD (o+i) xy:=by
    simp[Zhd,ZiN,ZhL,Zhi W,ZhF,Zis]
   rw[hg]at this;exact⟨h2 y<|Zhh n,this⟩
 cases D:Y8 c.P T with
 |false=>
  rw[D]at r N;have l:C*f<m*f:=by rw[<-Y];exact(Zh9.1 r).1
  refine⟨_,LW hT D<|t _ l,z,by simp[eval,H,hj,Zhk];exact N,(A _ z r).2.mono λb Q=>GH.cd Q⟩
 |true=>
  rw[D]at r N;simp at r;subst r;refine⟨.agg ((List.range f).map λi=>vs.getD (o+(C*f+i)) xy).toArray,jq hT D _ (by simp[hk]) (λi u n=> ?_),_,by simp[eval,H,hj,Zhk];exact N,?_⟩;have l:i<f:=by simpa using(Zh9.1 n).1
  have:vs.getD (o+(C*f+i)) xy=u:=by simpa[l]using n
  rw[<-this,show o+C*f+i=o+(C*f+i)from by omega];exact t _ Z0;have M:I ((x.drop<|C*f).take f)=f:=Zge;refine .agg _ _ (by simp[ZiF,ZhM,List.length_range,M]) (λy hy=> ?_) λi y n=> ?_;let⟨i,n⟩:=ZhH<|Zjr<|Zie hy;exact(A i y n).1;have l:i<f:=by have:=(Zh9.1 n).1;omega
  rw[ZhL,Zhi l,ZhF]at n;have:((List.range f).map λi=>vs.getD (o+(C*f+i)) xy).toArray.getD i xy=vs.getD (o+(C*f+i)) xy:=by
   simp[Zhd,l]
  rw[this];exact(A _ y n).2.mono λb Q=>GH.cd Q
 simp at K
def OwnV.elem{o ty x v}(Q:OwnV c.P B w h o ty x v){S q y T}(d:Xb x (.int S (q:Nat)) T=J y):
  ∃l n cap a,∃D:Nat->Value,x=.sl l/\l[q]?=J y/\o=J n/\v=.slice (J ⟨n,0,U⟩) (I l) cap/\w.heap[n]?=J (.cells a ty (0,0))/\y.an (c.P.cellsOf ty)/\q*c.P.cellsOf ty+c.P.cellsOf ty<=a.size/\
   (∀i,i<c.P.cellsOf ty->w.cell? ⟨n,q*c.P.cellsOf ty+i,U⟩=J (D i))/\∀i z,y.cells[i]?=J z->Rd w h.F z (D i):=by
 obtain⟨l,D,rfl,X,f,g,M,r⟩|⟨_,_,_,_,_,_,rfl,_⟩:=Q;case inr=>simp[Xb]at d
 simp only[Xb]at d;split at d;rw[Zhm,Zh6]at d;let⟨W,d,j⟩:=d;split at j<;>first|(simp at j;subst W)|simp_all
 have p:=(Zh9.1 d).1;obtain⟨rfl,Y⟩|⟨n,cap,a,rfl,_,G,k,_,t,A⟩:=g.2;omega;have H:q*c.P.cellsOf ty+c.P.cellsOf ty<=I l*c.P.cellsOf ty:=by
  rw[<-Zit];exact ZhS _ p
 have K:I l*c.P.cellsOf ty<=a.size:=by rw[t];exact ZhS _ k
 refine⟨l,n,cap,a,λi=>a.getD (q*c.P.cellsOf ty+i) xy,rfl,d,by rw[<-M];rfl,rfl,G,Zgc,Z0,λi N=> ?_,λi z R=> ?_⟩;rw[Zhl w n _ a ty _ G];have:q*c.P.cellsOf ty+i<a.size:=Z0;simp_all;have N:i<c.P.cellsOf ty:=by
  have:=(Zh9.1 R).1;rw[(f y<|Zhh d).1]at this;exact this
 let⟨u,L,O⟩:=r (q*c.P.cellsOf ty+i) z (by simp_all[Vt]);have:a.getD (q*c.P.cellsOf ty+i) xy=u:=by
  rw[<-A,ZhL,Zhi Z0]at L;have C:a[q*c.P.cellsOf ty+i]?=J u:=ZgV;simp[Zhd,C]
 simp_all;omega
def GM{x:V}{k}(h:x.an k):x.pc=x.cells:=by
 rfl
theorem Z5Y(hr:RelG c B G s a w h g){T}(S:YT c.P T=xk){p i j o C k}(u:BF c g T p i j o C=J k)(L:∀e∈E9 k,∃z,eval s e=J z)
  {n q} (K:h.bl p (Rh i)=J n) {Q} (W:eval s j=J (.int Q (q:Nat))) d:
  Has c B s w h (λp=>a.tmps[p]?) d k (Instr.loadAt T<|.pointer<|J ⟨n,q*C+o,U⟩):=by
 unfold BF at u;simp only[Zh6]at u;let⟨⟨ty,e⟩,Z,u⟩:=u;split at u;rename_i X;simp at u;subst u;let⟨v,x,_,hx,F⟩:=hr.place Z;let⟨z,t⟩:=L _<|List.Mem.head _;have D:∃y,eval s (.ba e j C)=J y:=by
  unfold Ks at t;split at t;simp[eval]at t⊢;cases H:((eval s e).bind λx=>(eval s j).bind λy=>Xb x y C)with
  |none=>simp_all
  |some y=>simp
  simp[eval]at t⊢;cases H:((eval s e).bind λx=>(eval s j).bind λy=>Xb x y C)with
  |none=>simp_all
  |some y=>simp
 let⟨y,H⟩:=D;have O:Xb x (.int Q q) C=J y:=by
  simp[eval,hx,W,Zhk]at H;exact H
 obtain⟨l,n',cap,R,xs,rfl,Y,M,rfl,hh,f,_,r,N⟩:=F.elem O;rw[K]at M;simp at M;subst M;rw[X]at r f;have A:=GM f;exact BG (c:=c) (B:=B) (sh:=[p]) S (b:=n) (q:=q*C) (o:=o) (vs:=xs) (by rw[A];exact f.2) (by rw[A,f.1];exact r) (λi z t=>by rw[A]at t;exact(N i z t).mono λb K=>GH.cd K) H ⟨z,t⟩ _ d;grind
def Z86(A:RelG c B G s a w h g)(D:holds s<|ZI c C){T x k es}(N:CN c g C T x=J (k,es))(K:∀e∈es,∃z,eval s e=J z)d:
  Has c B s w h (λp=>a.tmps[p]?) d k (Instr.loadAt T<|a.eval x):=by
 unfold CN at N;split at N;rename_i O;simp at N;obtain⟨k',r,rfl,rfl⟩:=N;unfold IF at r;split at r;rename_i S f;obtain⟨t,rfl,⟨v,hv,P,⟨b,vs,ty,l,rfl,_⟩⟩,_⟩:=(Jw A D f rfl).resolve_left Z1;rw[P];exact IG A O r l d;rename_i p o f;let⟨b,l,F⟩:=XN A D f rfl d;grind [IG];rename_i e o sh f;simp at r;subst r;let⟨y,b,q,vs,X,l,F,H,M,Y⟩:=XN A D f rfl d;rw[l];exact BG O H M Y X (K _<|List.Mem.head _) _ d;rename_i e sh f;simp at r;subst r;let⟨y,Z,L⟩:=Qk A D f;let⟨z,W⟩:=K _<|List.Mem.head _;have Q:∃u,Tj y=J u:=by
  unfold Ks at W;cases R:Tj y with
  |none=>grind [eval]
  |some u=>simp
 let⟨u,R⟩:=Q;generalize a.eval x=v at L;cases L with
 |ptr S b o vs l F H M=>
  simp[Tj,Zh7]at R;exact BG (c:=c) (B:=B) (sh:=sh) O (x:=.agg S) (b:=b) (q:=o) (o:=0) (vs:=vs) F H M (by simp[eval,Z,Tj]) ⟨z,W⟩ _ d
 |_=>simp[Tj]at R
 rename_i p i j o kk f;let⟨n,q,l,⟨ki,F⟩,H⟩:=XN A D f rfl d;grind [Z5Y];rename_i p o j m kk f;let⟨b,q,l,⟨ki,F⟩,H,M⟩:=XN A D f rfl d;grind [Z5X];grind;grind
end
end Vm
namespace Vm
open Go
open Go.RowKit (Below)
section
variable {c:Ctx}{B:Nat}{G:Nat->Prop}{s:St}{a:Act}{w:World}{h:GH}{g:Gam}{C:ZG}
def Bl{P:Program}{T}(h:P.cellsOf T≠0):∃i,P.info? T=J i/\P.cellsOf T=i.size:=by
 unfold Program.cellsOf at h⊢;cases a:P.info? T with
 |none=>grind
 |some i=>simp
def PU{P T fs}(h:VE P T=.st fs):∃a,P.underlying T=J (.struct a)/\(∀d∈a,YT P d.type=xk)/\fs=a.toList.map λf=>(f.offset,P.cellsOf f.type,Y8 P f.type,XM P f.type):=by
 unfold VE at h;grind
def Gz{P T f x}(g:KF P T f=J x):
  ∃d a,P.underlying T=J (.struct d)/\d[f]?=J a/\YT P a.type=xk/\x=(a.offset,P.cellsOf a.type,Y8 P a.type,XM P a.type):=by
 unfold KF at g;split at g;rename_i d h;obtain⟨k,l,j,rfl⟩:=PU h;grind;cases g
def LV{T f b o x}(a:KF c.P T f=J x)(g:x.2.1≠0):
  (Instr.fieldAt T (.pointer<|J ⟨b,o,U⟩) f).run c.P w=.ok (.pointer<|J ⟨b,o+x.1,U⟩) w:=by
 obtain⟨j,h,n,d,_,rfl⟩:=Gz a;let⟨i,k,l⟩:=Bl g;simp_all[Instr.fieldAt,ZhQ,Instr.sureAddr,fieldPlace,Um,ZiZ]
def Z82(N:RelG c B G s a w h g)(K:holds s<|ZI c C){T x f k es}(l:CI c g C T x f=J (k,es))(Q:∀e∈es,∃z,eval s e=J z)d:
  Has c B s w h (λp=>a.tmps[p]?) d k (Instr.fieldAt T (a.eval x) f):=by
 unfold CI at l;simp only[Zh6]at l;let⟨y,L,l⟩:=l;split at l;grind;rename_i M;split at l;rename_i S D;obtain⟨rfl,rfl⟩:=l;obtain⟨t,rfl,⟨v,hv,R,⟨b,vs,ty,A,rfl,_⟩⟩,_⟩:=(Jw N K D rfl).resolve_left Z1;rw[R];exact⟨_,LV L M,b,A,Z1⟩;rename_i p q D;obtain⟨rfl,rfl⟩:=l;let⟨b,A,F⟩:=XN N K D rfl d;rw[F];exact⟨_,LV L M,b,A,rfl⟩;rename_i e q sh D;obtain⟨rfl,rfl⟩:=l;let⟨z,b,r,vs,Y,A,F,H,P,Z⟩:=XN N K D rfl d;rw[A];exact⟨_,LV L M,z,b,r,vs,Y,Z1,F,H,P,Z⟩;rename_i e sh D;obtain⟨rfl,rfl⟩:=l;let⟨u,W,O⟩:=Qk N K D;let⟨z,X⟩:=Q _<|List.Mem.head _;simp[eval,W,Zhk]at X;generalize a.eval x=v at O;cases O with
 |ptr S b o vs A F H P=>
  exact⟨_,LV L M,.agg S,b,o,vs,by simp[eval,W,Tj],rfl,A,F,H,P⟩
 |_=>simp[Tj]at X
 rename_i p i j q kk D;obtain⟨rfl,rfl⟩:=l;let⟨n,r,A,F,H⟩:=XN N K D rfl d;rw[H];exact⟨_,LV L M,n,r,A,F,Z1⟩;grind
def JS{P T a}(h:VE P T=.sl a):P.underlying T=J (.slice a):=by
 grind [VE]
def DU{P T a n}(h:VE P T=.ar n a):P.underlying T=J (.array n a):=by
 grind [VE]
def Hl{x j z k}(d:Xb x j k=J z):∃l f q,x=.sl l/\j=.int f (q:Nat)/\l[q]?=J z/\I z.cells=k:=by
 unfold Xb at d;split at d;rename_i l f i;split at d;rename_i g;obtain⟨q,rfl⟩:=Zhp g;rw[Zh6]at d;let⟨n,h,a⟩:=d;split at a<;>first|(simp at a;subst n)|simp_all
 exact⟨l,f,q,rfl,rfl,h,by assumption⟩;grind;grind
def Rd.int_eq{G' a n v}(h:Rd w G' (.int a n) v):v=.int a n:=by cases h;rfl
def Pb{T a}(f:c.P.underlying T=J (.slice a))(d:YT c.P a=xk){b o len cap k q}(h:q<len):
  (Instr.indexAt T (.slice (J ⟨b,o,U⟩) len cap)<|.int k q).run c.P w=.ok (.pointer<|J ⟨b,o+q*c.P.cellsOf a,U⟩) w:=by
 let⟨l,i,p,g,j,_⟩:=Uf d;have n:(0:Int)<=q/\q<len:=Z0;simp[Instr.indexAt,asIntOf,ZhQ f,h,Um g,j,ZiZ]
def Z84(X:RelG c B G s a w h g)(Y:holds s<|ZI c C){T x i k es}(r:CM c g C T x i=J (k,es))(R:∀e∈es,∃z,eval s e=J z)d:
  Has c B s w h (λp=>a.tmps[p]?) d k (Instr.indexAt T (a.eval x)<|a.eval i):=by
 unfold CM at r;split at r;rename_i A hT;have N:=JS hT;simp only[Zh6]at r;let⟨⟨j,sj⟩,hj,r⟩:=r;let⟨y,hy,O⟩:=WT X Y hj;have own:∀ {p} {pi:Option Nat},Yr g C x=Ql p pi->yO c g p pi A j=J (k,es)->Has c B s w h (λp=>a.tmps[p]?) d k (Instr.indexAt T (a.eval x)<|a.eval i):=by
  intro p pi L F;unfold yO at F;simp only[Zh6]at F;let⟨⟨ty,e⟩,ho,F⟩:=F;split at F;rename_i W;let⟨W,f⟩:=W;simp at F;obtain⟨rfl,rfl⟩:=F;have a8:=XN X Y L (by cases pi<;>rfl) 0;let⟨xv,b8,a7⟩:=X.gl ho a8;let⟨z,H⟩:=R _<|List.Mem.head _;simp[eval,b8,hy,Zhk]at H;have b9:=H;obtain⟨l,ki,q,rfl,rfl,M,_⟩:=Hl H;let⟨l',n,cap,d0,xs,b6,_,b0,hv,_⟩:=a7.elem b9;cases b6;rw[hv,O.int_eq];refine⟨_,Pb N f (Zh9.1 M).1,n,q,?_,⟨ki,hy⟩,by rw[ZhZ,ZiS]⟩;cases pi<;>exact b0;simp at F
 split at r;rename_i p L;exact own (pi:=U) L r;rename_i p q L;exact own (pi:=J q) L r;rename_i e sh L;split at r;rename_i f;simp at r;obtain⟨rfl,rfl⟩:=r;let⟨u,hu,S⟩:=Qk X Y L;let⟨z,H⟩:=R _<|List.Mem.head _;have a3:=H;simp[eval,hu,hy,Zhk]at H;obtain⟨l,ki,q,rfl,rfl,M,c0⟩:=Hl H;rw[O.int_eq];generalize a.eval x=v at S;cases S with
 |nil a' cap hc=>simp at M
 |sl _ b o cap kk vs h1 h2 h3 h4 h5 h6=>
  have D:=h4 z<|Zhh M;have b5:kk=c.P.cellsOf A:=by rw[<-D.1,c0]
  subst b5;have a5:=(Zh9.1 M).1;have b7:q*c.P.cellsOf A+c.P.cellsOf A<=I l*c.P.cellsOf A:=by
   rw[<-Zit];exact ZhS _ a5
  have a2:=GM D;refine⟨_,Pb N f a5,z,b,o+q*c.P.cellsOf A,λi=>vs<|q*c.P.cellsOf A+i,a3,by rw[ZiS],h3,by rw[a2];exact D.2,λi K=> ?_,λi u K=> ?_⟩;rw[a2,D.1]at K;rw[Zik];exact h5 _ Z0;rw[a2]at K;have b3:i<c.P.cellsOf A:=by rw[<-D.1];exact(Zh9.1 K).1
  exact h6 _ u (by rw[Vt h4 M i b3];exact K)
 simp at r;simp at r;rename_i n A hT;have N:=DU hT;split at r;simp at r;rename_i f;simp at f;simp only[Zh6]at r;let⟨⟨j,sj⟩,hj,r⟩:=r;let⟨y,hy,O⟩:=WT X Y hj;have fin:∀ {p o b},a.eval x=.pointer (J ⟨b,o,U⟩)->h.bl p 0=J b->J (TK.pa p o j n<|c.P.cellsOf A,[E.ai (.c<|.agg<|List.replicate n<|.bool xk) j n 1 xw])=J (k,es)->Has c B s w h (λp=>a.tmps[p]?) d k (Instr.indexAt T (a.eval x)<|a.eval i):=by
  intro p o b a1 hb heq;simp at heq;obtain⟨rfl,rfl⟩:=heq;let⟨z,H⟩:=R _<|List.Mem.head _;simp[eval,hy,Zhk]at H;obtain⟨cs,ki,q,_,rfl,hq,_⟩:=zJ H;rw[a1,O.int_eq];let⟨dd,info,hd,K,hs,_⟩:=Uf f;refine⟨_,?_,b,q,hb,⟨ki,hy⟩,hq,rfl⟩;simp[Instr.indexAt,asIntOf,ZhQ N,hq,Um K,hs,ZiZ,Instr.sureAddr]
 split at r;rename_i cs L;obtain⟨t,rfl,⟨v,hv,a1,⟨b,vs,ty,h1,rfl,_⟩⟩,_⟩:=(Jw X Y L rfl).resolve_left (by rintro(⟨e,h⟩|h)<;>cases h);exact fin a1 h1 r;rename_i p o L;let⟨b,h1,h2⟩:=XN X Y L rfl d;exact fin h2 h1 r;rename_i e o sh L;simp at r;obtain⟨rfl,rfl⟩:=r;let⟨u,b,q0,vs,he,hv,a4,a6,a0,S⟩:=XN X Y L rfl d;let⟨z,H⟩:=R _<|List.Mem.head _;have a3:=H;simp[eval,he,hy,Zhk,Zh6]at H;let⟨cs,b2,H⟩:=H;obtain⟨b7,rfl⟩:=yl b2;obtain⟨c8,ki,q,b1,rfl,hq,c7,a9⟩:=zJ H;cases b1;simp at a9;rw[hv,O.int_eq];let⟨dd,info,hd,K,hs,_⟩:=Uf f;have c1:q*c.P.cellsOf A+c.P.cellsOf A<=n*c.P.cellsOf A:=by
  rw[<-Zit];exact ZhS _ hq
 have Z:∀i x,z.pc[i]?=J x->i<c.P.cellsOf A/\u.pc[o+q*c.P.cellsOf A+i]?=J x:=by
  intro i x Q;rw[<-a9]at Q;simp only[V.pc,ZhL]at Q;split at Q;rename_i b4;rw[ZhF,ZhL,Zhi Z0,ZhF]at Q;exact⟨b4,by rw[<-Q];congr 1;omega⟩;cases Q
 refine⟨_,?_,z,b,q0+(o+q*c.P.cellsOf A),λi=>vs<|o+q*c.P.cellsOf A+i,a3,rfl,a4,?_,?_,?_⟩;simp[Instr.indexAt,asIntOf,ZhQ N,hq,Um K,hs,ZiZ,Instr.sureAddr,Zik];intro x Q;let⟨i,K⟩:=ZhH Q;exact a6 x<|Zhh (Z i x K).2;intro i K;have:=Z i _<|Zh8 K;rw[Zik];exact a0 _ (Zh9.1 this.2).1;intro i x Q;exact S _ x (Z i x Q).2;simp at r;simp at r
theorem Br{x z}(h:YV x=J z):z.one=xk:=(Sc h).2
def Mc{f x k v z}(h:T8 f x k v=J z):∃id g vs a d,x=.mp id g vs/\z=.mp id a d:=by
 unfold T8 at h;grind
theorem ye:∀e x,e.df=xk->eval s e=J x->x.one=xk
 |.c v,x,h,g=>by simp[eval,Zh7]at g;subst g;exact h
 | .m t i,x,_,g=>by
   simp[eval]at g;split at g;rw[Zh6]at g;let⟨y,_,f⟩:=g;exact Br f
   grind
 | .ce op a b,x,_,g=>by
   simp[eval,Zh6]at g;let⟨y,_,z,_,f⟩:=g;cases y<;>cases z<;>cases op<;>simp only[Xi]at f<;>(try split at f)<;>(try simp[Zh7]at f)<;>(try subst f)<;>first|rfl|simp at f
 | .fm n a b,x,_,g=>by
   simp[eval,Zh6]at g;let⟨y,_,z,_,f⟩:=g;cases y<;>cases z<;>simp[SP]at f<;>(try simp[Zh7]at f)<;>(try subst f)<;>first|rfl|simp at f
 | .un op a,x,_,g=>by
   simp[eval,Zh6]at g;let⟨y,_,f⟩:=g;cases y<;>cases op<;>simp[Ss]at f<;>(try simp[Zh7]at f)<;>(try subst f)<;>first|rfl|simp at f
 | .conv k a,x,_,g=>by
   simp[eval,Zh6]at g;let⟨y,_,f⟩:=g;cases y<;>simp[QY]at f<;>(try simp[Zh7]at f)<;>(try subst f)<;>first|rfl|simp at f
 | .len a,x,_,g=>by
   simp[eval,Zh6]at g;let⟨y,_,f⟩:=g;cases y<;>simp[Qa]at f<;>(try simp[Zh7]at f)<;>(try subst f)<;>first|rfl|simp at f
 | .mn a b,x,_,g=>by
   simp[eval,Zh6]at g;let⟨y,_,z,_,f⟩:=g;cases y<;>cases z<;>simp[Qf]at f<;>(try simp[Zh7]at f)<;>(try subst f)<;>first|rfl|simp at f
 | .mx a b,x,_,g=>by
   simp[eval,Zh6]at g;let⟨y,_,z,_,f⟩:=g;cases y<;>cases z<;>simp[Qe]at f<;>(try simp[Zh7]at f)<;>(try subst f)<;>first|rfl|simp at f
 | .dj r a k v,x,_,g=>by
   simp[eval,Zh6]at g;let⟨y,_,z,_,u,_,f⟩:=g;obtain⟨_,_,_,_,_,_,rfl⟩:=Mc f;rfl
 | .eo a,x,_,g=>by
   simp[eval,Zh6]at g;let⟨y,_,f⟩:=g;cases y<;>simp[R5]at f<;>(try simp[Zh7]at f)<;>(try subst f)<;>first|rfl|simp at f
 | .fh a,x,_,g=>by
   simp[eval,Zh6]at g;let⟨y,_,f⟩:=g;cases y<;>simp[L6]at f<;>(try simp[Zh7]at f)<;>(try subst f)<;>first|rfl|simp at f
 | .ac a o,x,_,g=>by
   simp[eval,Zh6,Y1]at g;grind [Br]
 | .ik a j p k,x,_,g=>by
   simp[eval,Zh6]at g;let⟨y,_,z,_,u,_,f⟩:=g;unfold Ro at f;split at f;split at f;simp[Zh7]at f;subst f;rfl;grind;grind
 | .fi a j k,x,_,g=>by
   simp[eval,Zh6]at g;let⟨y,_,z,_,f⟩:=g;unfold Qz at f;split at f;split at f;simp[Zh7]at f;subst f;rfl;grind;grind
 | .app a b k,x,_,g=>by
   simp[eval,Zh6]at g;let⟨y,_,z,_,f⟩:=g;unfold RH at f;split at f;split at f;simp[Zh7]at f;subst f;rfl;grind;grind
 | .upd a i o b,x,_,g=>by
   simp[eval,Zh6]at g;let⟨y,_,z,_,u,_,f⟩:=g;unfold Rs at f;split at f;split at f;rw[Zh6]at f;let⟨q,_,f⟩:=f;split at f;simp[Zh7]at f;subst f;rfl;grind;grind;grind
 | .mk z n,x,_,g=>by
   simp[eval,Zh6]at g;let⟨y,_,f⟩:=g;unfold L9 at f;split at f;split at f;simp[Zh7]at f;subst f;rfl;grind;grind
 | .lit l,x,_,g=>by
   simp[eval,Zha]at g;let⟨y,_,f⟩:=g;subst f;rfl
 | .one a,x,_,g=>by
   grind [eval,Option.bind_eq_some_iff,Br]
 | .ite d a b,x,h,g=>by
   simp[E.df,Zhb]at h;simp[eval,Zh6]at g;let⟨y,_,f⟩:=g;unfold Je at f;split at f;exact ye a x h.1 f;exact ye b x h.2 f;grind
 |.s t,x,h,g=>Zgv
 |.mm t i n,x,h,g=>Zgv
 |.ext a i,x,h,g=>Zgv
 |.ba a i k,x,h,g=>Zgv
 |.bi a o n,x,h,g=>Zgv
 |.ai a i n k ag,x,h,g=>Zgv
 |.di a i n k b,x,h,g=>Zgv
 |.ag l,x,h,g=>Zgv
 |.ax a,x,h,g=>Zgv
 |.bv a,x,h,g=>Zgv
 |.sz a n,x,h,g=>Zgv
 |.fl a,x,h,g=>Zgv
 |.kw a,x,h,g=>Zgv
end
end Vm
namespace Vm
open Go
open Go.RowKit (Below)
section
variable {c:Ctx}{B:Nat}{G:Nat->Prop}{s:St}{a:Act}{w:World}{h:GH}{g:Gam}{C:ZG}
theorem MJ{e x}(hx:eval s (qB e)=J x):eval s e=J x/\x.one=xk:=by
 unfold qB at hx;split at hx;grind [ye];simp[eval,Zh6]at hx;let⟨y,f,a⟩:=hx;obtain⟨rfl,d⟩:=Sc a;simp_all
theorem PT{x z n}(a:VD x n=J z):x=z/\I z.cells=n/\∀l,z≠.aq l:=by
 unfold VD at a;split at a
 .rename_i d;cases x<;>simp at a<;>first|(subst a;exact⟨rfl,d,Z1⟩)|(simp at a;done)
 grind
theorem MK{x:V}(h:x.one=xk):∀l,x≠.aq l:=by
 grind [V.one]
theorem TF{x:V}(h:x.one=xk):x.cells=[x]:=by
 cases x<;>first|rfl|simp[V.one]at h
theorem ZaU{e n x}(hx:eval s (DS e n)=J x):eval s e=J x/\I x.cells=n/\∀l,x≠.aq l:=by
 unfold DS at hx;split at hx
 .rename_i a;refine⟨hx,?_⟩;cases e<;>simp[E.ru,Zi2,Zhb]at a<;>first|(cases a;done)|skip
  grind [eval,Option.some.injEq,V.cells];subst a;simp[eval,Zh6]at hx;let⟨y,_,d⟩:=hx;obtain⟨f,rfl⟩:=yl d;grind [V.cells];rename_i l;let⟨u,k⟩:=a;simp[eval,Zha]at hx;obtain⟨t,g,rfl⟩:=hx;let⟨f,j⟩:=UV g;have p:∀y∈t,y.one=xk:=by
   intro y d;let⟨i,o⟩:=ZhH d;have r:i<I l:=by have:=(Zh9.1 o).1;omega
   let⟨z,q,h⟩:=j i l[i] Z1;rw[o]at q;cases q;exact ye _ _ Zgd h
  simp_all[TR,V.cells,U9];grind [eval,Option.bind_eq_some_iff,PT]
 simp[eval,Zh6]at hx;let⟨y,d,f⟩:=hx;obtain⟨rfl,j⟩:=PT f;simp_all
theorem jO{ag n e x}(hx:eval s (V8 ag n e)=J x):eval s e=J x/\(∀l,x≠.aq l)/\(ag=xk->I x.cells=n)/\(ag=xw->x.one=xk):=by
 grind [V8,ZaU,MJ,MK]
def Dm{P T}(j:(P.underlying T).isSome=xk)(f:P.cellsOf T≠0){vs o}(p:o+P.cellsOf T<=vs.size):
  (part T vs o).run P w=.ok (if Y8 P T then .agg (vs.extract o<|o+P.cellsOf T)else vs.getD o xy) w:=by
 let⟨i,l,t⟩:=Bl f;have a:YT P T=xk:=by simp[YT,j,l]
 let⟨d,u,r,n,q,g⟩:=Uf a;have h:o<vs.size:=Z0;cases k:Y8 P T with
 |true=>simp_all[part,Um]
 |false=>simp_all[part,Zhd]
def Rd.part{G'}{cs:List V}{vs:Array Value}(g:vs.size=I cs)(h2:∀c∈cs,c.one=xk)(h:∀i c,cs[i]?=J c->Rd w G' c (vs.getD i xy)){o n}(f:o+n<=I cs):
  Rd w G' (.agg<|(cs.drop o).take n) (.agg<|vs.extract o<|o+n):=by
 refine .agg _ _ Zge Zgc λi y a=> ?_;rw[ZhL]at a;split at a;rename_i d;have j:(vs.extract o<|o+n).getD i xy=vs.getD (o+i) xy:=by
  simp[Zl0];rw[Zhi Z0]
 simp_all;grind
def Il{x z}(a:Q5 x=J z):∃d,x=.agg d/\z=.agg d:=by
 unfold Q5 at a;split at a;simp at a;exact⟨_,rfl,a.symm⟩;grind
def Z83(hr:RelG c B G s a w h g)(X:holds s<|ZI c C){T x f k es}(n:CJ c g C T x f=J (k,es))(N:∀e∈es,∃z,eval s e=J z)d:
  Has c B s w h (λp=>a.tmps[p]?) d k (Instr.field T (a.eval x) f):=by
 unfold CJ at n;simp only[Zh6]at n;let⟨y,hf,n⟩:=n;split at n;grind;rename_i S;simp only[Zha,Zho]at n;obtain⟨⟨e,sh⟩,Z,rfl,rfl⟩:=n;obtain⟨fs,D,hu,a0,H,rfl⟩:=Gz hf;let⟨u,A,r⟩:=WT hr X Z;let⟨z,j⟩:=N _<|List.Mem.head _;generalize a.eval x=v at r;let⟨i,hi,hs⟩:=Bl S;have t:(c.P.underlying D.type).isSome=xk:=by simp[YT,Zhb]at H;exact H.1
 cases F:Y8 c.P D.type with
 |true=>
  rw[F]at j;simp[eval,A,Zhk,Zh6]at j;let⟨q,O,j⟩:=j;obtain⟨W,rfl,rfl⟩:=Il O;obtain⟨l,rfl⟩:=yl j;cases r with
  |agg _ vs L Q M=>
   refine⟨.agg _,?_,.agg _,?_,Rd.part L Q M l⟩;have:=Dm (w:=w) (P:=c.P) t S (vs:=vs) (o:=D.offset) (by rw[L];exact l);simp_all[Instr.field,ZhQ,asAgg];simp only[Zi9,eval,A,Zhk,Q5,Uv];rw[Zhi l];rfl
 |false=>
  rw[F]at j;simp[Zhu,eval,A,Zhk,Zh6]at j;let⟨q,O,j⟩:=j;obtain⟨W,rfl,rfl⟩:=Il O;have K:=GQ j;cases r with
  |agg _ vs L Q M=>
   have a2:D.offset<vs.size:=by rw[L];exact(Zh9.1 K).1
   refine⟨vs.getD D.offset xy,?_,z,?_,M _ _ K⟩;let⟨d',i',Y,a1,a3,R⟩:=Uf (P:=c.P) (T:=D.type) Z0;simp_all[Instr.field,ZhQ,asAgg,part,Zhd];simp_all[Zhu,eval,Zhk,Q5]
def Z85(Y:RelG c B G s a w h g)(S:holds s<|ZI c C){T x i k es}(F:CL c g C T x i=J (k,es))(L:∀e∈es,∃z,eval s e=J z)d:
  Has c B s w h (λp=>a.tmps[p]?) d k (Instr.index T (a.eval x)<|a.eval i):=by
 unfold CL at F;split at F;rename_i n t hT;have A:=DU hT;split at F;grind;rename_i l;simp at l;simp only[Zh6,Zha,Zho]at F;obtain⟨⟨e,sh⟩,he,⟨j,sj⟩,hj,rfl,rfl⟩:=F;let⟨u,hu,H⟩:=WT Y S he;let⟨y,hy,N⟩:=WT Y S hj;let⟨z,O⟩:=L _<|List.Mem.head _;have K:=O;simp[eval,hu,hy,Zhk]at O;obtain⟨cs,ki,q,rfl,rfl,M,X,f⟩:=zJ O;rw[N.int_eq];generalize a.eval x=v at H;let⟨dd,info,hd,W,Z,r⟩:=Uf l;have a0:q*c.P.cellsOf t+c.P.cellsOf t<=n*c.P.cellsOf t:=by
  rw[<-Zit];exact ZhS _ M
 cases H with
 |agg _ vs Q h2 R=>
  cases o:Y8 c.P t with
  |false=>
   rw[o]at f K;have D:q*c.P.cellsOf t<vs.size:=by rw[Q];exact(Zh9.1 f).1
   rw[Z]at D f;refine⟨vs.getD _ xy,?_,z,Z0,R _ _ f⟩;simp[Instr.index,asIntOf,ZhQ A,M,Um W,part,r,o,D,Zhd]
  |true=>
   rw[o]at f K;simp at f;subst f;refine⟨.agg _,?_,_,Z0,Rd.part Q h2 R Z0⟩;rw[Z];simp[Instr.index,asIntOf,ZhQ A,M,Um W,part,r,o]
 grind
def PA{k l}(a:XA k l=xk):∀x∈l,I x.cells=k:=λx d=>by
 have:=Zhn.1 a x d;simp_all
def Z3w{P:Program}{T a}(h:P.underlying T=J (.slice a)):P.elem T=a:=by
 simp[Program.elem,h]
def Rd.sliced{G' l o len cap}(hx:Rd w G' (.sl l)<|.slice o len cap){k p q}(D:XA k l=xk)(F:p<=q)(y:q<=I l):
  q<=cap/\len=I l/\Rd w G' (.sl<|(l.take q).drop p) (sliced o p q cap k):=by
 cases hx with
 |nil _ _ C=>
  simp at y;subst y;have t:p=0:=Z0;subst t;exact⟨Z0,rfl,by simp;exact .nil _ _ C⟩
 |sl _ b o _ a vs G H z u A B=>
  refine⟨Z0,rfl,?_⟩;unfold Go.sliced;by_cases h:p=q;subst h;have:(l.take p).drop p=[]:=by
   rw[Zl1];simp;omega
  rw[this,Zj6];exact .nil _ _ Z0;have r:cap≠p:=Z0;have n:∃x,l[p]?=J x:=⟨_,Zh8 Z0⟩;let⟨x,hx⟩:=n;have j:a=k:=by rw[<-(u x<|Zhh hx).1,PA D x Zgc]
  subst j;have d:I ((l.take q).drop p)=q-p:=Zge;simp[Zhg r,ZhA,ZiZ];rw[<-d];have f:Vm.flat ((l.take q).drop p)=((Vm.flat l).take<|q*a).drop (p*a):=by
   rw[Z3Q (k:=a) Zgc,Z3T u]
  refine .sl _ b _ _ a (λi=>vs<|p*a+i) Z0 Z0 z Zgc (λi g=> ?_) λi c g=> ?_;rw[Zik];refine A _ ?_;have:(q-p)*a+p*a<=I l*a:=by rw[<-Nat.add_mul];exact ZhS _ Z0
  rw[d]at g;omega;rw[f,ZhF,ZhL]at g;split at g;exact B _ _ g;simp at g
def Z9O{T}(g:c.P.underlying T=J (.slice<|c.P.elem T)){v lo a f d k}:
  Has c B s w h f d k (Instr.sliceAt T v lo a U)=Has c B s w h f d k (Instr.slice T v lo a U):=by
 simp_all[Has,run_sliceAt_slice]
theorem jr{P T}(a:YT P T=xk)w:(Go.sizeOf T).run P w=.ok (P.cellsOf T) w:=by
 grind [Uf,Um]
def Zan{k x y z u}(a:Ro k x y z=J u):∃l f g p q,x=.sl l/\y=.int f (p:Nat)/\z=.int g (q:Nat)/\p<=q/\q<=I l/\XA k l=xk/\u=.sl ((l.take q).drop p):=by
 unfold Ro at a;split at a;rename_i l f p g q;split at a;rename_i j;let⟨d,h,n,o⟩:=j;obtain⟨p,rfl⟩:=Zhp d;obtain⟨q,rfl⟩:=Zhp<|Int.le_trans d h;grind;grind;grind
def Zao{k x y u}(a:Qz k x y=J u):∃l d p,x=.sl l/\y=.int d (p:Nat)/\p<=I l/\XA k l=xk/\u=.sl (l.drop p):=by
 unfold Qz at a;split at a;rename_i l d p;split at a;rename_i h;let⟨f,j,g⟩:=h;obtain⟨p,rfl⟩:=Zhp f;simp at a;exact⟨l,d,p,rfl,rfl,Z0,g,a.symm⟩;grind;grind
def Rd.rv{G' l v}(hx:Rd w G' (.sl l) v):∃o len cap,v=.slice o len cap:=by
 cases hx<;>exact⟨_,_,_,rfl⟩
def Z8h(S:RelG c B G s a w h g)(R:holds s<|ZI c C){T x lo Y k es}(O:CW c g C T x lo Y=J (k,es))(X:∀e∈es,∃z,eval s e=J z)d:
  Has c B s w h (λp=>a.tmps[p]?) d k (Instr.sliceAt T (a.eval x) (lo.map a.eval) (Y.map a.eval) U):=by
 unfold CW at O;split at O;rename_i el hT;have M:=JS hT;have W:c.P.underlying T=J (.slice<|c.P.elem T):=by rw[Z3w M];exact M
 split at O;rename_i a4;simp only[Zh6,Zha,Zho]at O;obtain⟨⟨e,sh⟩,he,l,D,e',A,rfl,rfl⟩:=O;let⟨u,hu,n⟩:=WT S R he;let⟨z,y⟩:=X _<|List.Mem.head _;rw[Z9O W];generalize a.eval x=v at n;cases Y with
 |some hh=>
  simp only[Cc,Zha]at A;obtain⟨⟨f,sf⟩,hf,rfl⟩:=A;let⟨y2,a1,Q⟩:=WT S R hf;have L:=y;simp[eval,hu,a1,Zhk,Zh6]at y;let⟨y1,r,y⟩:=y;obtain⟨ll,ka,kb,p,q,rfl,rfl,rfl,Z,hq,K,rfl⟩:=Zan y;obtain⟨o,len,cap,rfl⟩:=n.rv;let⟨a0,N,j⟩:=n.sliced K Z hq;refine⟨_,?_,_,L,j⟩;cases lo with
  |some a2=>
   simp only[Lq,Zha]at D;obtain⟨⟨f1,a3⟩,F,rfl⟩:=D;let⟨y3,t,H⟩:=WT S R F;rw[r]at t;cases t;simp;rw[Q.int_eq,H.int_eq];simp_all[run_slice_lh,jr,Result.andThen]
  |none=>
   simp[Lq,Zh7]at D;subst D;simp[eval,Zh7,V.int.injEq]at r;have a5:p=0:=Z0;simp;rw[Q.int_eq];grind [run_slice_h,jr,Result.andThen]
 |none=>
  simp[Cc,Zh7]at A;subst A;have L:=y;simp[eval,hu,Zhk,Zh6]at y;let⟨y1,r,y⟩:=y;obtain⟨ll,ka,p,rfl,rfl,hq,K,rfl⟩:=Zao y;obtain⟨o,len,cap,rfl⟩:=n.rv;let⟨a0,N,j⟩:=n.sliced K hq Z0;rw[Ziy]at j;refine⟨_,?_,_,L,j⟩;cases lo with
  |some a2=>
   simp only[Lq,Zha]at D;obtain⟨⟨f1,a3⟩,F,rfl⟩:=D;let⟨y3,t,H⟩:=WT S R F;rw[r]at t;cases t;simp;rw[H.int_eq];simp_all[run_slice_l,jr,Result.andThen]
  |none=>
   simp[Lq,Zh7]at D;subst D;simp[eval,Zh7,V.int.injEq]at r;grind [run_slice_all,jr,Result.andThen]
 grind;grind
end
end Vm
namespace Vm
open Go
open Go.RowKit (Below)
def GH.ff(h:GH)(d i n:Nat):GH:= {F:=h.F,bl:=λt j=>if t=d then(if j=i then J n else U)else h.bl t j,K:=h.K}
def GH.tj(h:GH)(n:Nat):GH:= {F:=λb=>h.F b\/b=n,bl:=h.bl,K:=h.K}
section
variable {c:Ctx}{B:Nat}{G:Nat->Prop}{s:St}{a:Act}{w w':World}{h:GH}{g:Gam}{C:ZG}
def QS(a:Ok B G w h)(d:w.grownBy w' U):=(Zhw B w).grown d a.base λk f=>by cases f
def jK(a:Ok B G w h)(l:w.grownBy w' U)d i{n}(z:xz (xj w)<=n)(o:n<xz (xj w')):
  Ok B G w' (h.ff d i n)/\Step B [d] [d] [] w w' h (h.ff d i n):=by
 have k:=l.size
 refine⟨⟨ZhD a.base k,λb f=>Zhj (a.bz b f) k,a.cz,a.fj,λt j b f=> ?_,λt j u q b f g=> ?_,λb f=>Zhj (a.cx b f) k,λt j b f p=> ?_,a.fk⟩,
  QS a l,λb f _=>l.block b f Z1,λb f=>f,λt A _=> ?_,λt A=> ?_,Z1,rfl⟩
 simp[GH.ff]at f;split at f;split at f;simp at f;subst f;exact⟨ZhD a.base z,o,λy=>by have:=a.bz _ y;omega⟩;cases f;let⟨r,C,x⟩:=a.aw t j b f;exact⟨r,Z0,x⟩
 .simp[GH.ff]at f g;split at f<;>split at g;simp_all
  .split at f<;>first|(cases f;done)|skip
   simp at f;have:=(a.aw u q b g).2.1;omega
  .split at g<;>first|(cases g;done)|skip
   simp at g;have:=(a.aw t j b f).2.1;omega
  exact a.inj t j u q b f g
 simp[GH.ff]at f;split at f;split at f;simp at f;have:=a.cx _ p;omega;cases f;exact a.cp t j b f p;simp_all[GH.ff];simp_all[GH.ff]
def ZaS(a:Ok B G w h)(k:w.grownBy w' U)ps rb{n}(q:xz (xj w)<=n)(r:n<xz (xj w')):
  Ok B G w' (h.tj n)/\Step B ps rb [] w w' h (h.tj n):=by
 have f:=k.size
 refine⟨⟨ZhD a.base f,λb d=> ?_,λb d=> ?_,λb d=>.inl<|a.fj b d,λt j b d=> ?_,a.inj,λb d=>Zhj (a.cx b d) f,a.cp,λb d=> ?_⟩,
  QS a k,λb d _=>k.block b d Z1,λb d=>.inl d,λt u _=>rfl,λt u=>rfl,Z1,rfl⟩
 obtain d|rfl:=d;exact Zhj (a.bz b d) f;omega;obtain d|rfl:=d;exact a.cz b d;exact .inr<|ZhD a.base q;let⟨l,x,o⟩:=a.aw t j b d;refine⟨l,Z0,λg=> ?_⟩;obtain g|rfl:=g;exact o g;omega;obtain d|rfl:=d;exact a.fk b d;exact .inr λp=>by have:=a.cx _ p;omega
def Dq(f:Ok B G w h)(a:w.grownBy w' U){G'}(d:∀b,G' b->b<xz (xj w)):Same G' w w':=λb g=>a.block b Zgd Z1
def Z3E(a:Ok B G w h)sh:∀b,h.ext sh b->b<xz (xj w):=by
 intro b d;obtain d|⟨p,_,i,f⟩:=d;exact a.bz b d;exact(a.aw p _ b f).2.1
def BM{α β:Type}{f}:∀ {l:List α} {r:List β},l.mapM f=J r->I r=I l/\∀(i:Nat) v,l[i]?=J v->∃x,r[i]?=J x/\f v=J x
 | [],r,a=>by
   simp at a;subst a;exact⟨rfl,Z1⟩
 |y::l,r,a=>by
  simp[Zh6,Zh7]at a;obtain⟨x,k,n,g,rfl⟩:=a;let⟨h,j⟩:=BM g;refine⟨by simp[h],λi v d=> ?_⟩;cases i with
  |zero=>simp at d;subst d;exact⟨x,Z1,k⟩
  |succ i=>simpa using j i v Zgp
def El{P T d}(a:zeroCells P T=J d):∃i z,P.info? T=J i/\i.zero=J z/\z.cells.size=I d/\∀(j:Nat) v,z.cells[j]?=J v->∃x,d[j]?=J x/\Vc v=J x:=by
 unfold zeroCells at a;simp[Zh6]at a;let⟨z,⟨i,l,g⟩,f⟩:=a;let⟨h,k⟩:=BM f;simp_all
def js{P T i z}(a:P.info? T=J i)(d:i.zero=J z)w:(zeroValue T).run P w=.ok z w:=by
 simp[zeroValue,typeInfo,a,d]
def Dl{P T}v w:(newVar T v).run P w=.ok ⟨xz<|xj w,0,U⟩ (w.alloc<|.cells v.cells T):=by
 rfl
def ZbH(x:V):CK:=match x with|.sl _=>CK.nil|_=>.fz
def ZbN{P o v x}(a:Vc v=J x):RelC P B s w h o (ZbH x) (.c x) v:=by
 unfold Vc at a;split at a<;>first
  |(simp at a;subst a;first|exact⟨_,rfl,rfl,.int _ _⟩|exact⟨_,rfl,rfl,.bool _⟩|exact⟨_,rfl,rfl,.str _⟩|exact⟨rfl,rfl⟩|exact⟨_,rfl,rfl,.mg⟩|exact⟨_,rfl,rfl,.im⟩|exact⟨_,rfl,rfl,.io⟩)
  | (split at a<;>first
    | (rename_i d
       simp at a;subst a;rw[Zig d.1,Zig d.2];exact⟨_,rfl,rfl,.fn _⟩)
    |simp at a)
  |simp at a
def Z7W(p:Ok B G w h){T k es}(f:CC c T=J (k,es))H d:
  ∃v w',(Instr.alloc T xk<|.tuple #[]).run c.P w=.ok v w'/\PRes c B G s w h H d k v w':=by
 unfold CC at f;simp only[Zh6]at f;let⟨M,F,f⟩:=f;split at f;grind;simp at f;obtain⟨rfl,rfl⟩:=f;let⟨i,z,D,t,r,a⟩:=El F;have C:=Ziu w (.cells z.cells T) U;let⟨g,q⟩:=jK p C d 0 (n:=xz<|xj w) Z0 Z1;refine⟨.pointer<|J ⟨xz<|xj w,0,U⟩,_,?_,_,q,g,?_⟩;simp[Instr.alloc,js D t,Dl];refine⟨xz<|xj w,z.cells,T,by simp[GH.ff],rfl,ZhB w _,Zgd,λj K u=> ?_⟩;simp at u;obtain⟨x,y,rfl⟩:=u;have o:j<z.cells.size:=by rw[r];exact(Zh9.1 y).1
 let⟨L,l,A⟩:=a j z.cells[j] Z1;rw[y]at l;cases l;have:z.cells.getD j xy=z.cells[j]:=by simp[o]
 rw[this];exact ZbN A
def Z80(O:RelG c B G s a w h g)(hC:holds s<|ZI c C){T x k es}(l:CG c g C T x=J (k,es))(t:∀e∈es,∃z,eval s e=J z)tm d:
  ∃v w',(Instr.box T<|a.eval x).run c.P w=.ok v w'/\PRes c B G s w h tm d k v w':=by
 unfold CG at l;split at l;rename_i e0 hk;split at l;rename_i a0;let⟨y,hy,L⟩:=Qk O hC hk;have hg:=Ziu w (.cells (a.eval x).cells T) U;let⟨K,Z⟩:=jK O.ok hg d 0 (n:=xz<|xj w) Z0 Z1;have hF:=Dq O.ok hg O.ok.bz;refine⟨.pointer _,_,Zh2,_,Z,K,?_⟩;generalize a.eval x=v at*;split at l;rename_i o;simp[o,Zh7,Zho]at l;obtain⟨rfl,rfl⟩:=l;let⟨z,Q⟩:=t _<|List.Mem.head _;let⟨q,S,N,_⟩:=jO Q;rw[hy]at q;cases q;let⟨M,Y,f⟩:=L.cells S;refine⟨xz<|xj w,v.cells,T,by simp[GH.ff],rfl,ZhB w _,Zgd,λj ck p=> ?_⟩;simp at p;obtain⟨R,A,rfl⟩:=p;have D:j<c.P.cellsOf T:=by simpa using(Zh9.1 A).1
 have X:R=j:=by simpa[D]using A.symm
 subst X;have H:R<I y.cells:=by rw[N rfl];exact D
 have u:=Zh8 H;refine⟨y.cells[R],?_,Zgd,(f R _ u).F.keep hF λb W=>W⟩;have a1:y.pc=y.cells:=by cases y<;>first|rfl|exact absurd rfl _
 simp_all[eval,Zhk,Y1,YV,Zhx];rename_i o;have r:Y8 c.P T=xw:=by simpa using o
 simp[r,Zh7,Zho]at l;obtain⟨rfl,rfl⟩:=l;let⟨z,Q⟩:=t _<|List.Mem.head _;let⟨q,S,_,N⟩:=jO Q;rw[hy]at q;cases q;let⟨M,Y,f⟩:=L.cells S;rw[TF<|N rfl]at M f;refine⟨xz<|xj w,v.cells,T,by simp[GH.ff],rfl,ZhB w _,Z0,λj ck p=> ?_⟩;cases j with
 |zero=>
  simp at p;subst p;exact⟨y,Q,N rfl,(f 0 y rfl).F.keep hF λb W=>W⟩
 |succ j=>simp at p
 grind;grind
def Pr off:∀(l:List<|Value×Nat) (a:Array Value) m,(∀i q,l[i]?=J q->q.2=m+i)->off+m+I l<=a.size->
  (l.foldl (λa (c,j)=>a.setIfInBounds (off+j) c) a).size=a.size/\
  (∀x,x<off+m\/off+m+I l<=x->(l.foldl (λa (c,j)=>a.setIfInBounds (off+j) c) a)[x]?=a[x]?)/\
  ∀i q,l[i]?=J q->(l.foldl (λa (c,j)=>a.setIfInBounds (off+j) c) a)[off+m+i]?=J q.1
 | [],a,m,_,_=>Z1
 | (v,j)::l,a,m,d,h=>by
   have r:=d 0 _ rfl;subst r;have g:∀i q,l[i]?=J q->q.2=(j+1)+i:=λi q f=>by
    have:=d (i+1) q Zgc;omega
   simp at h;let⟨o,k,p⟩:=Pr off l (a.setIfInBounds (off+j) v) _ g Zge;simp only[ZiP];refine⟨by rw[o];simp,λx n=> ?_,λi q f=> ?_⟩;rw[k x (by simp at n;omega),Zi5 (by simp at n;omega)];cases i with
   |zero=>
    simp at f;subst f;rw[ZiS,k _ Z0];have:off+j<a.size:=Z0;simp[this]
   |succ i=>
    have:=p i q Zgc;rw[show off+j+(i+1)=off+(j+1)+i from by omega];exact this
def Za3 off(v:Value)(cs:Array Value)(k:off+v.cells.size<=cs.size):
  (v.cells.zipIdx.foldl (λcs (c,j)=>cs.setIfInBounds (off+j) c) cs).size=cs.size/\
  (∀x,x<off\/off+v.cells.size<=x->(v.cells.zipIdx.foldl (λcs (c,j)=>cs.setIfInBounds (off+j) c) cs)[x]?=cs[x]?)/\
  ∀i,i<v.cells.size->(v.cells.zipIdx.foldl (λcs (c,j)=>cs.setIfInBounds (off+j) c) cs)[off+i]?=v.cells[i]? :=by
 have p:∀i q,v.cells.zipIdx.toList[i]?=J q->v.cells[i]?=J q.1/\q.2=0+i:=by
  intro i q d;rw[Zis,Array.getElem?_zipIdx,Zha]at d;obtain⟨u,n,rfl⟩:=d;exact⟨n,Z0⟩
 have a:I v.cells.zipIdx.toList=v.cells.size:=Z1;rw[<-ZjG];let⟨f,g,h⟩:=Pr off v.cells.zipIdx.toList cs 0 Z1 (by rw[a];omega);refine⟨f,λx o=>g x (by rw[a];omega),λi d=> ?_⟩;have l:v.cells.zipIdx.toList[i]?=J (v.cells[i],0+i):=by
  rw[Zis];simp
 have:=h i _ l;rw[ZiS]at this;rw[this];simp
def AN place:∀parts a,(∀p∈parts,∃off,place p.1=J (off,p.2.cells.size)/\off+p.2.cells.size<=a.size)->
  ∃R,Instr.fill place a parts=J R/\R.size=a.size/\
   (∀x,(∀p∈parts,∀off n,place p.1=J (off,n)->x<off\/off+n<=x)->R[x]?=a[x]?)/\
   ∀pre p f,parts=pre++p::f->∀off,place p.1=J (off,p.2.cells.size)->(∀q∈f,∀o n,place q.1=J (o,n)->off+p.2.cells.size<=o\/o+n<=off)->∀j,j<p.2.cells.size->R[off+j]?=p.2.cells[j]?
 | [],a,_=>⟨a,rfl,rfl,Z1,Z1⟩
 | (i,v)::parts,a,g=>by
   let⟨off,d,h⟩:=g (i,v) Z1;simp only at d h;let⟨C,z,D⟩:=Za3 off v a h;let⟨R,F,B,k,A⟩:=AN place parts (v.cells.zipIdx.foldl (λa (c,j)=>a.setIfInBounds (off+j) c) a) (λp l=>Zgd);refine⟨R,?_,Z0,λx u=> ?_,λpre p f l w r t j G=> ?_⟩;have:¬(off+v.cells.size>a.size):=Z0;simp[Instr.fill,d];grind;rw[k x λp l=>u p (by simp[l])];exact z x<|u (i,v) Z1 off _ d;obtain _|⟨y,pre⟩:=pre;grind;grind
end
end Vm
namespace Vm
open Go
open Go.RowKit (Below)
def X8:List (CK×E)->List Nat->Nat->Option Nat
 | [],_,_=>U
 |(.own _,_)::_,t::_,0=>J t
 |(.own _,_)::r,_::a,i+1=>X8 r a i
 |(.own _,_)::_,[],_=>U
 |_::_,_,0=>U
 |_::r,a,i+1=>X8 r a i
def XI:List (CK×E)->Nat
 | []=>0
 |(.own _,_)::r=>XI r+1
 |_::r=>XI r
theorem DG:∀ {l} {a g:List Nat} {r:List (CK×E)} {i:Nat},XI l=I a->i<I l->X8 (l++r) (a++g) i=X8 l a i
 | [],_,_,_,_,_,f=>by simp at f
 | (k,e)::l,a,g,r,i,d,f=>by
   cases k with
   |own h=>
    obtain _|⟨t,a⟩:=a;simp[XI]at d;simp[XI,Zip,ZkT]at d;cases i with
    |zero=>rfl
    |succ i=>simpa[X8]using DG d Zgc
   |_=>
    simp[XI]at d;cases i with
    |zero=>rfl
    |succ i=>simpa[X8]using DG d Zgc
theorem DH:∀ {l} {a f:List Nat} {r:List (CK×E)} {i:Nat},XI l=I a->X8 (l++r) (a++f) (I l+i)=X8 r f i
 | [],a,f,r,i,d=>by
   grind [XI]
 | (k,e)::l,a,f,r,i,d=>by
   have g:(I l+1+i)=(I l+i)+1:=Z0;cases k with
   |own h=>
    obtain _|⟨t,a⟩:=a;simp[XI]at d;simp_all[XI,Zip,ZkT,Zix,X8,DH]
   |_=>
    simp[XI]at d;simp[g];exact DH d
theorem N2:∀l r,XI (l++r)=XI l+XI r
 | [],r=>by simp[XI]
 | (k,e)::l,r=>by
   cases k<;>simp[XI,N2 l r]<;>omega
section
variable {c:Ctx}{B:Nat}{G:Nat->Prop}{s:St}{a:Act}{w w':World}{h:GH}{g:Gam}{C:ZG}
def BRel(c:Ctx)(B:Nat)(s:St)(a:Act)(w:World)(h:GH)(cs:List<|CK×E)(ts sh:List Nat)(i:Nat)(d:CK×E)(v:Value):Prop:=
 match d.1 with
 |.own f=>∃t,X8 cs ts i=J t/\t∈ts/\a.tmps[t]?=J v/\∃x,eval s d.2=J x/\OwnV c.P B w h (h.bl t 1) f x v
 |.nil=>v=.slice U 0 0/\eval s d.2=J (.sl [])
 |.fz=>∃x,eval s d.2=J x/\x.one=xk/\Rd w (h.ext sh) x v
 |.gh=>False
def ZbJ{l}{z:Array Value}(F:∀(j:Nat) v,z[j]?=J v->∃x,l[j]?=J x/\Vc v=J x)(t:z.size=I l)o n:
  XI (zt l o n).1=0/\∀u D C i j p,(zt l o n).1[j]?=J p->BRel c B s a w h u D C i p (z.getD (o+j) xy):=by
 constructor;unfold zt;induction (List.take n _)with
 |nil=>rfl
 |cons x r G=>cases x<;>simp_all[XI]
 intro u D C i j p y;simp only[zt,Zhz,Zha]at y;obtain⟨x,g,rfl⟩:=y;rw[ZhL]at g;split at g;rw[ZhF]at g;have q:o+j<z.size:=by rw[t];exact(Zh9.1 g).1
 let⟨H,k,d⟩:=F (o+j) z[o+j] Z1;rw[g]at k;cases k;have f:z.getD (o+j) xy=z[o+j]:=by simp[q]
 rw[f];generalize z[o+j]=v at d;unfold Vc at d;split at d<;>first
  |(simp at d;subst d;first|exact⟨_,rfl,rfl,.int _ _⟩|exact⟨_,rfl,rfl,.bool _⟩|exact⟨_,rfl,rfl,.str _⟩|exact⟨rfl,rfl⟩|exact⟨_,rfl,rfl,.mg⟩|exact⟨_,rfl,rfl,.im⟩|exact⟨_,rfl,rfl,.io⟩)
  | (split at d<;>first
    | (rename_i A
       simp at d;subst d;rw[Zig A.1,Zig A.2];exact⟨_,rfl,rfl,.fn _⟩)
    |simp at d)
  |simp at d
 grind
def Z3V{e}{n j:Nat}{z}(a:eval s (.ac e j)=J z):∃y,eval s e=J y/\y.pc[j]?=J z/\z.one=xk:=by
 grind [eval,Option.bind_eq_some_iff,Y1,Sc]
def O1{x:V}(h:∀l,x≠.aq l):x.pc=x.cells:=by
 rfl
def Bx(o:RelG c B G s a w h g)(k:holds s<|ZI c C){x d}(hx:YD g C x=J d){ag fl n}(F:n≠0){z}
  (q:eval s (V8 ag n (XQ fl d).1)=J z):
  (∀l,z≠.aq l)/\(ag=xk->I z.cells=n)/\(ag=xw->z.one=xk)/\Rd w (h.ext (XQ fl d).2) z (a.eval x):=by
 let⟨y,p,f⟩:=WT o k (show YD g C x=J _ from hx);let⟨j,u,A,D⟩:=jO q;let⟨H,r,t⟩:=RV (fl:=fl) (b:=d) p f ⟨z,j⟩;simp_all
def Z7O(T:RelG c B G s a w h g)(S:holds s<|ZI c C){n}(hn:n≠0){ag fl x}{b:BC}(A:Cz g C n ag fl x=J b)(N:I b.1=n)
  (D:∀k∈b.1,∃z,eval s k.2=J z):
  XI b.1=I b.2.2/\(a.eval x).cells.size=n/\∀f,(∀t∈b.2.1,t∈f)->∀j k,b.1[j]?=J k->BRel c B s a w h b.1 b.2.2 f j k ((a.eval x).cells.getD j xy):=by
 have a4:∀ {b},((YD g C x).map λa0=>let a:=XQ fl a0;let e:=V8 ag n a.1;(if ag then(List.range n).map λj=>(CK.fz,E.ac e j)else [(.fz,e)],a.2,[]))=J b->I b.1=n->(∀k∈b.1,∃z,eval s k.2=J z)->
   XI b.1=I b.2.2/\(a.eval x).cells.size=n/\∀f,(∀t∈b.2.1,t∈f)->∀j k,b.1[j]?=J k->BRel c B s a w h b.1 b.2.2 f j k ((a.eval x).cells.getD j xy):=by
  intro b H N D;simp only[Zha]at H;obtain⟨R,W,rfl⟩:=H;have F:∀f,(∀t∈(XQ fl R).2,t∈f)->∀b,h.ext (XQ fl R).2 b->h.ext f b:=by
   intro f o b H;obtain H|⟨p,A,i,hi⟩:=H;exact .inl H;exact .inr ⟨p,o p A,i,hi⟩
  cases ag with
  |true=>
   have h0:=D (CK.fz,E.ac (V8 xk n (XQ fl R).1) 0) Zgc;let⟨z0,a3⟩:=h0;let⟨y,K,_,_⟩:=Z3V (n:=n) a3;let⟨Y,h2,_,Z⟩:=Bx T S W hn K;let⟨P,Q,u⟩:=Z.cells Y;refine⟨?_,Zgd,λf o j k d=> ?_⟩;generalize List.range n=l;induction l with
   |nil=>rfl
   |cons q r ih=>simp_all[XI]
   simp at d;obtain⟨X,M,rfl⟩:=d;have a2:j<n:=by simpa using(Zh9.1 M).1
   have a1:X=j:=by simpa[a2]using M.symm
   subst a1;have L:y.cells[X]?=J (y.cells[X]'Zgd):=Z1;refine⟨_,?_,Q _ Z1,(u X _ L).mono<|F f o⟩;simp_all[eval,Zhk,Y1,O1,YV]
  |false=>
   let⟨y,K⟩:=D _<|Zic.2 rfl;have K:eval s (V8 xw n (XQ fl R).1)=J y:=K;let⟨Y,_,h3,Z⟩:=Bx T S W hn K;let⟨P,Q,u⟩:=Z.cells Y;rw[TF Zgd]at P u;refine⟨rfl,Zgd,λf o j k d=> ?_⟩;cases j with
   |zero=>
    simp at d;subst d;exact⟨y,K,h3 rfl,(u 0 y rfl).mono Zgd⟩
   |succ j=>simp at d
 unfold Cz at A;split at A;rename_i t ty e hk;simp at A;subst A;let⟨v,hv,⟨x,W,ho⟩,_⟩:=T.look S (show look g C t=_ from hk) rfl;have O:v.cells=#[v]:=by
  obtain⟨l,xs,_,_,_,⟨_,hc⟩,_⟩|⟨_,_,_,_,_,_,_,rfl,_⟩:=ho;obtain⟨rfl,_⟩|⟨_,_,_,rfl,_⟩:=hc<;>rfl;rfl
 rw[Act.al a t v hv,O];refine⟨rfl,Z0,λf o j k d=> ?_⟩;cases j with
 |zero=>
  simp at d;subst d;exact⟨t,rfl,Z1,by simpa using hv,x,W,by simpa using ho⟩
 |succ j=>simp at d
 rename_i hk;simp at A;subst A;rw[Jy T S hk];refine⟨rfl,by grind [Value.cells],λf o j k d=> ?_⟩;cases j with
 |zero=>simp at d;subst d;exact⟨rfl,rfl⟩
 |succ j=>simp at d
 grind
def BRel.left{cs r ts f sh i d v}(g:BRel c B s a w h cs ts sh i d v)(k:XI cs=I ts)(j:i<I cs):BRel c B s a w h (cs++r) (ts++f) sh i d v:=by
 grind [BRel,DG]
theorem BRel.right{cs r ts f sh i d v}(g:BRel c B s a w h r f sh i d v)(j:XI cs=I ts):BRel c B s a w h (cs++r) (ts++f) sh (I cs+i) d v:=by
 grind [BRel,DH]
def FU(hr:RelG c B G s a w h g)(hC:holds s<|ZI c C){Q parts}{z:Array Value}(hz:∀(j:Nat) v,z[j]?=J v->∃x,Q[j]?=J x/\Vc v=J x)(P:z.size=I Q)sh:
  ∀D i o b,Kl g C Q parts D i o=J b->(∀d∈b.1,∃z,eval s d.2=J z)->(∀t∈b.2.1,t∈sh)->
   o+I b.1=I Q/\XI b.1=I b.2.2/\
   (∀q f,D[q]?=J f->o<=f.1/\f.1+f.2.1<=I Q/\(∀(L:Nat) y,D[L]?=J y->q<L->f.1+f.2.1<=y.1))/\
   (∀q f p,D[q]?=J f->parts.find? (λp=>p.1==i+q)=J p->(a.eval p.2).cells.size=f.2.1)/\
   ∀R:Array Value,(∀q f,D[q]?=J f->∀j,j<f.2.1->R.getD (f.1+j) xy=match parts.find? (λp=>p.1==i+q)with|some p=>(a.eval p.2).cells.getD j xy|none=>z.getD (f.1+j) xy)->
    ∀j d,b.1[j]?=J d->BRel c B s a w h b.1 b.2.2 sh j d (R.getD (o+j) xy)
 | [],i,o,b,l,_,_=>by
   simp only[Kl]at l;split at l;simp at l;subst l;exact⟨by simpa,rfl,Z1,Z1,Z1⟩;grind
 |f::D,i,o,b,l,N,Z=>by
  simp only[Kl,Zh6]at l;let⟨k,n,l⟩:=l;split at l;rename_i F;let⟨ho,X,hn⟩:=F;simp only[Zha]at l;obtain⟨b2,S,rfl⟩:=l;simp only[ZhC]at N Z;let⟨h1,h2,h3,h4,h5⟩:=FU hr hC hz P sh D _ _ b2 S Zgc Zgd
  have O:XI k.1=I k.2.2/\(∀p,parts.find? (λp=>p.1==i)=J p->(a.eval p.2).cells.size=f.2.1)/\
    ∀j d,k.1[j]?=J d->BRel c B s a w h k.1 k.2.2 sh j d (match parts.find? (λp=>p.1==i)with|some p=>(a.eval p.2).cells.getD j xy|none=>z.getD (f.1+j) xy):=by
   unfold NY at n;cases r:parts.find? (λp=>p.1==i)with
   |some p=>
    simp[r]at n;let⟨k1,k2,k3⟩:=Z7O hr hC hn n X λd T=>N d<|.inl T;grind
   |none=>
    simp[r,Zh7]at n;subst n;let⟨k1,k2⟩:=ZbJ (c:=c) (B:=B) (s:=s) (a:=a) (w:=w) (h:=h) hz P f.1 f.2.1;exact⟨k1,Z1,λj d H=>k2 _ _ sh j j d H⟩
  let⟨f1,f2,f3⟩:=O;refine⟨Zgc,by grind [N2,List.length_append],λq y K=> ?_,λq y p K hp=> ?_,λR hR j d H=> ?_⟩;cases q with
  |zero=>
   simp at K;subst K;refine⟨Z0,Z0,λL y Y A=> ?_⟩;grind
  |succ q=>
   let⟨g1,g2,g3⟩:=h3 q y Zgc;refine⟨Z0,g2,λL a0 Y A=> ?_⟩;cases L with
   |zero=>omega
   |succ L=>grind
  cases q with
  |zero=>simp at K;subst K;exact f2 p (by simpa using hp)
  |succ q=>exact h4 q y p Zgc (by rw[show i+1+q=i+(q+1)from by omega];exact hp)
  by_cases A:j<I k.1;rw[ZhI A]at H;have M:=hR 0 f rfl j Z0;rw[ho]at M;rw[M];have:=f3 j d H;rw[ho]at this;exact(this).left f1 A;rw[Zhy Z0]at H
  have:=h5 R (λq y K j' W=>by
   have:=hR (q+1) y Zgc j' W;grind) _ d H
  have u:=this.right (cs:=k.1) (ts:=k.2.2) f1;rw[show I k.1+(j-I k.1)=j from by omega]at u;rw[show o+f.2.1+(j-I k.1)=o+j from by omega]at u;exact u;grind
def C4:∀ {l},Sa l=xk->l.Nodup
 | [],_=>Z1
 |x::l,a=>by
  simp[Sa,Zk8]at a;exact Zjb.2 ⟨a.1,C4 a.2⟩
def GK{β:Type}:∀ {l:List (Nat×β)} {p:Nat×β},(l.map (·.1)).Nodup->p∈l->l.find? (λq=>q.1==p.1)=J p
 | [],p,_,a=>by simp at a
 |q::l,p,f,a=>by
  simp[Zjb]at f;obtain rfl|a:=Zhs.1 a;simp;have d:q.1≠p.1:=Zgc;rw[List.find?_cons_of_neg Zgp];exact GK f.2 a
def IT{α β:Type}{f}{g:α->β}:∀(l:List α),(∀x∈l,f x=J (g x))->l.mapM f=J (l.map g)
 | [],_=>rfl
 |x::l,a=>by
  simp_all[Zki,IT]
def Z45{β:Type}{n q f}{x:β}(h:((List.range n).map f)[q]?=J x):q<n/\x=f q:=by
 grind
def P7(hr:RelG c B G s a w h g)(hC:holds s<|ZI c C){T fs}(Y:qR c.P T=J fs){zs}(hz:zeroCells c.P T=J zs){parts:Array (Nat×Operand)}{b}
  (hb:zQ g C zs parts.toList fs=J b) (b0:∀ck∈b.1,∃z,eval s ck.2=J z):
  ∃vs,(Instr.build T<|parts.map λ(i,x)=>(i,a.eval x)).run c.P w=.ok (.agg vs) w/\vs.size=I b.1/\XI b.1=I b.2.2/\
   ∀j ck,b.1[j]?=J ck->BRel c B s a w h b.1 b.2.2 b.2.1 j ck (vs.getD j xy):=by
 unfold zQ at hb;split at hb;rename_i H;simp only[Zhb,Zhn,ZhG]at H;let⟨y,b4⟩:=H;have y:=C4 y;let⟨i,z,hi,a8,a3,N⟩:=El hz
 obtain⟨place,k,F⟩:∃place,(∀q f,fs[q]?=J f->place q=J (f.1,f.2.1))/\
   ∀ps R,Instr.fill place z.cells ps=J R->c.P.built T ps=J R:=by
  unfold qR at Y;split at Y;rename_i b7 a4;cases Y;obtain⟨W,hu,a0,rfl⟩:=PU a4;have b5:W.toList.mapM (λf=>(c.P.info? f.type).map λi=>(f.offset,i.size))=J (W.toList.map λf=>(f.offset,c.P.cellsOf f.type)):=by
   apply IT;intro f hf;let⟨d,i,hd,hi,hs,_⟩:=Uf<|a0 f<|Array.mem_toList_iff.1 hf;simp[hi,hs]
  refine⟨λx=>(W.toList.map λf=>(f.offset,c.P.cellsOf f.type)).toArray[x]?,λq f Q=> ?_,λps R hR=> ?_⟩;simp at Q;obtain⟨M,O,rfl⟩:=Q;simp[O];simp only[Program.built,hi,hu,a8,b5];exact hR;rename_i n el a4;split at Y;rename_i a0;cases Y;have hu:=DU a4;let⟨d,i',hd,b1,hs,_⟩:=Uf a0;refine⟨λx=>J (x*c.P.cellsOf el,c.P.cellsOf el),λq f Q=> ?_,λps R hR=> ?_⟩;obtain⟨_,rfl⟩:=Z45 Q;rfl;simp[Program.built,hi,hu,a8,b1,<-hs];exact hR;cases Y;cases Y
 let⟨h1,h2,h3,h4,h5⟩:=FU hr hC N a3 b.2.1 _ 0 0 b hb b0 Z1;simp only[ZhZ]at h1 h4 h5;have u:∀p∈parts.toList,∃f,fs[p.1]?=J f/\(a.eval p.2).cells.size=f.2.1:=by
  intro p hp;have hl:=b4 p hp;refine⟨_,Zh8 hl,h4 p.1 _ p Z1<|GK y hp⟩
 let⟨R,hR,a9,X,a5⟩:=AN place (parts.toList.map λp=>(p.1,a.eval p.2)) z.cells (by
  intro p hp;obtain⟨L,t,rfl⟩:=Zhq.1 hp;let⟨f,hf,A⟩:=u L t;refine⟨f.1,by rw[k _ f hf,A],?_⟩;rw[A,a3];exact(h3 _ f hf).2.1)
 refine⟨R,run_build w T _ R<|F _ _ (by simpa only[Ziw]using hR),by rw[a9,a3];omega,h2,λj ck hj=>h5 R (λq f Q j' b3=> ?_) j ck hj⟩;have K:∀q' M,fs[q']?=J M->q'≠q->f.1+f.2.1<=M.1\/M.1+M.2.1<=f.1:=by
  intro q' M S Z;obtain hl|hl:=Zjl Z;exact .inr<|(h3 q' M S).2.2 q f Q hl;exact .inl<|(h3 q f Q).2.2 q' M S hl
 cases r:parts.toList.find? (λp=>p.1==q)with
 |some p=>
  have a7:=ZjQ r;have a1:p.1=q:=by simpa using Zky r
  let⟨pre,b6,a2⟩:=List.append_of_mem a7;let⟨M,O,A⟩:=u p a7;rw[a1,Q]at O;cases O
  have b2:=a5 (pre.map λp=>(p.1,a.eval p.2)) (p.1,a.eval p.2) (b6.map λp=>(p.1,a.eval p.2)) (by rw[a2];simp) f.1 (by rw[a1,k q f Q,A]) (by
   intro q' S o n ho;obtain⟨L,t,rfl⟩:=Zhq.1 S;let⟨D,l,_⟩:=u L (by rw[a2];simp[t]);rw[k _ D l]at ho;obtain⟨rfl,rfl⟩:=ho;rw[A];refine K L.1 D l λhe=> ?_;rw[a2]at y;simp only[Zir,ZhN,Zkf,Zjb]at y;exact y.2.1.1 (by rw[a1,<-he];exact Zhq.2 ⟨L,t,rfl⟩)) j' (by simp only;rw[A];exact b3)
  simp;rw[b2]
 |none=>
  have a6:=X (f.1+j') (by
   intro p hp off n ho;obtain⟨L,t,rfl⟩:=Zhq.1 hp;let⟨D,l,_⟩:=u L t;rw[k _ D l]at ho;obtain⟨rfl,rfl⟩:=ho;have Z:L.1≠q:=λhe=>by
    have:=List.find?_eq_none.1 r L t;simp[he]at this
   have:=K L.1 D l Z;omega)
  simp;rw[a6]
 simp at hb
end
end Vm
end
