import Derived.WalkKit
set_option linter.unusedSimpArgs false
set_option linter.unusedVariables false
set_option linter.defProp false
open Option renaming some→J,none→U
open Bool renaming true→xk,false→xw
open Go renaming undef→xy
open List renaming length→I
open Array renaming size→xz
open Go.World renaming heap→xj
open List renaming length→xq
open Array renaming size→xz
open Go.World renaming heap→xj
theorem Z1{p:Prop}(h:p:=by simp):p:=h
theorem Z5V{p:Prop}(h:p:=by simp at h):p:=h
theorem Z5i{p:Prop}(h:p:=by simp_all):p:=h
theorem Z0{p:Prop}(h:p:=by omega):p:=h
theorem Z5h{p:Prop}(h:p:=by grind):p:=h
theorem Z5Z{p:Prop}(h:p:=by have:=D p d;simp[U5]at this;exact this y):p:=h
theorem Z5X{p:Prop}(h:p:=by simp[Builtin.len_,run_underlying d,goInt]):p:=h
theorem Z5j{p:Prop}(h:p:=by simp;omega):p:=h
theorem Z5R{p:Prop}(h:p:=by rw[j.1];exact(List.getElem?_eq_some_iff.1 y).1):p:=h
theorem Z60{p:Prop}(h:p:=by rw[cell_of_row w b o n L _ K];simp_all):p:=h
theorem Z5E{p:Prop}(h:p:=by simpa using d):p:=h
theorem Z5C{p:Prop}(h:p:=by simp[E.dg]at h):p:=h
def Z6L:=@List.length_append
def Z7s:=@Nat.succ_mul
def Z9C:=@Nat.add_comm
def Z6V:=@Nat.zero_add
def Z6B:=@List.getElem?_append_left
def Z6v:=@List.getElem?_append_right
def Z7i:=@List.mem_of_mem_take
def Z7O:=@List.length_take
def Z93:=@Nat.min_eq_left
def Z7t:=@List.take_of_length_le
def Z6T:=@Nat.mul_le_mul_right
def Z7R:=@List.drop_of_length_le
def Z6n:=@List.mem_of_getElem?
def Z75:=@Go.World.cell?_of_block
def Z6F:=@List.mem_map
def Z6g:=@Array.getD_eq_getD_getElem?
def Z6K:=@Option.getD_some
def Z7T:=@Nat.zero_le
def Z78:=@Array.eq_empty_of_size_eq_zero
def Z7p:=@List.eq_nil_of_length_eq_zero
def Z6j:=@Go.cell_of_row
def Z6o:=@Nat.lt_of_lt_of_le
def Z6O:=@List.getElem?_take
def Z6c:=@Option.some.injEq
def Z6a:=@Option.bind_eq_some_iff
def Z6f:=@Option.map_eq_some_iff
def Z6d:=@List.getElem?_eq_some_iff
def Z6y:=@List.all_eq_true
def Z6t:=@Prod.mk.injEq
def Z6k:=@if_pos
def Z6l:=@Bool.and_eq_true
def Z8O:=@List.any_eq_false
def Z8S:=@Bool.not_eq_true
def Z6r:=@Go.RowKit.Below.refl
def Z7l:=@Option.isSome_iff_exists
def Z6M:=@Go.run_underlying
def Z8Q:=@Go.Sem.run_bind
def Z7L:=@Go.Addr.add_lit
def Z81:=@List.ext_getElem?
def Z6A:=@List.getElem?_of_mem
def Z6C:=@List.getElem?_drop
def Z7n:=@Array.getElem?_toList
def Z6D:=@List.length_map
def Z8i:=@Option.map_some
def Z7E:=@List.getElem?_toArray
def Z77:=@Nat.add_assoc
def Z6s:=@Option.bind_some
def Z6q:=@Int.eq_ofNat_of_zero_le
def Z6b:=@List.getElem?_eq_getElem
def Z7y:=@List.size_toArray
def Z8x:=@List.mem_of_mem_drop
def Z6p:=@Int.toNat_natCast
def Z7Z:=@Nat.add_zero
def Z71:=@beq_iff_eq
def Z9t:=@Array.getElem?_extract
def Z7m:=@if_true
def Z73:=@Bool.false_eq_true
def Z80:=@Nat.sub_self
def Z6h:=@if_neg
def Z7P:=@List.take_length
def Z6H:=@Nat.le_trans
def Z7o:=@Go.World.grownBy_alloc
def Z6u:=@Go.heap_alloc_new
def Z6E:=@List.getElem_mem
def Z7C:=@List.foldl_cons
def Z8g:=@Array.getElem?_setIfInBounds_ne
def Z7N:=@List.length_cons
def Z9j:=@Nat.add_right_cancel_iff
def Z7x:=@List.cons_append
def Z6G:=@List.getElem?_map
def Z86:=@List.mem_singleton
def Z6Q:=@List.mem_append
def Z8K:=@decide_eq_false_iff_not
def Z83:=@List.nodup_cons
def Z6S:=@List.mem_cons
def Z6J:=@decide_eq_true_eq
def Z89:=@Nat.lt_or_gt_of_ne
def Z8z:=@List.mem_of_find?_eq_some
def Z91:=@List.find?_some
def Z7I:=@List.map_append
def Z6R:=@List.map_cons
def Z9i:=@List.nodup_append
section
namespace Vm
open Go
inductive V where
 |int (k:IntKind) (n:Int)
 |bool (b:Bool)
 |str (s:ByteArray)
 |sl (l:List V)
 |agg (cs:List V)
 |am (l:List V)
 |ptr (cs:List V)
 |fn (f:FuncId)
 |mp (id:Nat) (ks vs:List V)
 |dh (f:FuncId) (cs:List V)
 |lz (k:Nat)
 deriving Inhabited
def V.cells:V->List V
 |.agg a=>a
 |x=>[x]
def V.aj:V->Bool
 |.agg _|.am _=>xw
 |_=>xk
def V.ah(k:Nat)(x:V):Prop:=I x.cells=k/\∀c∈x.cells,c.aj=xk
def flat(l:List V):List V:=l.flatMap V.cells
def Mi:flat []=[]:=rfl
def TV x l:flat (x::l)=x.cells++flat l:=rfl
theorem yh l r:flat (l++r)=flat l++flat r:=by simp[flat]
def Te{k}:∀ {l},(∀x∈l,x.ah k)->I (flat l)=I l*k
 | [],_=>by simp[flat]
 |x::l,h=>by
  rw[TV,Z6L,(h x Z1).1,Te (λy a=>h y<|by simp[a])];simp[Z7s,Z9C]
def UO{k}:∀ {l} {i:Nat} {x:V},(∀x∈l,x.ah k)->l[i]?=J x->∀j,j<k->(flat l)[i*k+j]?=x.cells[j]?
 | [],i,x,_,h,_,_=>Z5V
 |y::l,0,x,a,h,j,d=>by
  simp at h;subst h;rw[TV,Nat.zero_mul,Z6V,Z6B (by rw[(a y Z1).1];exact d)]
 |y::l,i+1,x,a,h,j,d=>by
  rw[TV,Z6v (by rw[(a y Z1).1];rw[Z7s];omega),(a y Z1).1,
   show _*k+j-k=i*k+j from by rw[Z7s];omega]
  exact UO Z5i (by simpa using h) j d
def Mj{k l}(h:∀x∈l,x.ah k)n:flat (l.take n)=(flat l).take (n*k):=by
 by_cases a:n<=I l;have f:I (flat<|l.take n)=n*k:=by
  rw[Te (λx d=>h x<|Z7i d),Z7O,Z93 a]
 grind [yh,List.take_append_drop];rw[Z7t Z0,Z7t];rw[Te h];exact Z6T _ Z0
def Mg{k l}(h:∀x∈l,x.ah k)n:flat (l.drop n)=(flat l).drop (n*k):=by
 by_cases a:n<=I l;have f:I (flat<|l.take n)=n*k:=by
  rw[Te (λx d=>h x<|Z7i d),Z7O,Z93 a]
 grind [yh,List.take_append_drop];rw[Z7R Z0,Z7R,Mi];rw[Te h];exact Z6T _ Z0
def Mh{l}{i:Nat}{c}(h:(flat l)[i]?=J c):∃x∈l,c∈x.cells:=by
 have:=Z6n h;simp_all[flat]
inductive Rd (w:World) (G:Nat->Prop):V->Value->Prop where
 |int (k:IntKind) (n:Int):Rd w G (.int k n)<|.int k n
 |bool (b:Bool):Rd w G (.bool b)<|.bool b
 |str (s:ByteArray):Rd w G (.str s)<|.string s
 |nil (a:Option Addr) (cap:Nat):cap<=maxLen->Rd w G (.sl []) (.slice a 0 cap)
 |sl (l:List V) (b o cap k:Nat) (vs:Nat->Value):l.length<=cap->cap<=maxLen->G b->(∀x∈l,x.ah k)->
   (∀i,i<l.length*k->w.cell? ⟨b,o+i,none⟩=some (vs i))->(∀i c,(flat l)[i]?=some c->Rd w G c (vs i))->
   Rd w G (.sl l) (.slice (some ⟨b,o,none⟩) l.length cap)
 |agg (cs:List V) (vs:Array Value):vs.size=cs.length->(∀c∈cs,c.aj=true)->(∀i c,cs[i]?=some c->Rd w G c (vs.getD i undef))->Rd w G (.agg cs) (.agg vs)
 |am (l:List V) (vs:Array Value):vs.size=l.length->(∀i c,l[i]?=some c->Rd w G c (vs.getD i undef))->Rd w G (.am l) (.tuple vs)
 |ptr (cs:List V) (b o:Nat) (vs:Nat->Value):G b->(∀c∈cs,c.aj=true)->(∀i,i<cs.length->w.cell? ⟨b,o+i,none⟩=some (vs i))->
   (∀i c,cs[i]?=some c->Rd w G c (vs i))->Rd w G (.ptr cs) (.pointer<|some ⟨b,o,none⟩)
 |fn (f:FuncId):Rd w G (.fn f)<|.func (.func f) #[] #[]
 |dh (f:FuncId) (cs:List V) (vs:Array Value):vs.size=cs.length->(∀i c,cs[i]?=some c->Rd w G c (vs.getD i undef))->Rd w G (.dh f cs) (.func (.func f) #[] vs)
 |li:Rd w G (.lz 0)<|.pointer none
 |lj:Rd w G (.lz 1) .nilFunc
 |lf:Rd w G (.mp 0 [] [])<|.map none
 |mp (id:Nat) (ks xs:List V) (b clk:Nat) (es:Array MapEntry):(id=0\/id=b+1)->G b->w.heap[b]?=some (.map es clk)->ks.length=es.size->xs.length=es.size->
   (∀i c,ks[i]?=some c->Rd w G c (es.getD i default).key)->(∀i c,xs[i]?=some c->Rd w G c (es.getD i default).val)->Rd w G (.mp id ks xs) (.map<|some b)
def Same(G:Nat->Prop)(w w':World):Prop:=∀b,G b->w'.heap[b]?=w.heap[b]?
def Same.refl G w:Same G w w:=λ_ _=>rfl
theorem Same.trans{G a b c}(h:Same G a b)(k:Same G b c):Same G a c:=λx d=>(k x d).trans<|h x d
def Same.cell{G w w'}(h:Same G w w'){b o}(a:G b):w'.cell? ⟨b,o,U⟩=w.cell? ⟨b,o,U⟩:=
 Z75 (h b a)
def Rd.keep{w w' G G' x v}(h:Rd w G x v)(y:Same G w w')(M:∀b,G b->G' b):Rd w' G' x v:=by
 induction h with
 |int k n=>exact .int k n
 |bool b=>exact .bool b
 |str s=>exact .str s
 |nil a cap D=>exact .nil a cap D
 |sl l b o cap k j d p r u L _ g=>exact .sl l b o cap k j d p Z5i u (λi F=>by rw[y.cell r];grind) g
 |agg q j d p _ g=>exact .agg q j d p g
 |am l j d _ g=>exact .am l j d g
 |ptr q b o j d p r _ g=>exact .ptr q b o j Z5i p (λi F=>by rw[y.cell d];grind) g
 |fn f=>exact .fn f
 |dh f q j d _ g=>exact .dh f q j d g
 |li=>exact .li
 |lj=>exact .lj
 |lf=>exact .lf
 |mp id H K b t B C d p r u _ _ z A=>exact .mp id H K b t B C Z5i (by rw[y b d];exact p) r u z A
def Rd.mono{w G G' x v}(h:Rd w G x v)(a:∀b,G b->G' b):Rd w G' x v:=h.keep (.refl _ _) a
def Rd.ir{w G x v}(h:Rd w G x v):v.oneCell'=x.aj:=by
 cases h<;>rfl
theorem Rd.cells{w G x v}(h:Rd w G x v)(M:∀l,x≠.am l):v.cells.size=I x.cells/\(∀c∈x.cells,c.aj=xk)/\∀i c,x.cells[i]?=J c->Rd w G c (v.cells.getD i xy):=by
 have d:∀ {x} {v:Value},Rd w G x v->x.aj=xk->v.cells=#[v]->x.cells=[x]->v.cells.size=I x.cells/\(∀c∈x.cells,c.aj=xk)/\∀i c,x.cells[i]?=J c->Rd w G c (v.cells.getD i xy):=by
  intro x v h g F H;rw[F,H];refine⟨rfl,Z5h,λi c D=> ?_⟩;cases i with
  |zero=>simp_all
  |succ i=>simp at D
 cases h with
 |agg t q g j p=>exact⟨g,j,p⟩
 |am l q _ _=>simp_all
 |int k n=>exact d (.int k n) rfl rfl rfl
 |bool b=>exact d (.bool b) rfl rfl rfl
 |str s=>exact d (.str s) rfl rfl rfl
 |nil a cap C=>exact d (.nil a cap C) rfl rfl rfl
 |sl l b o cap k q g j p r y z=>exact d (.sl l b o cap k q g j p r y z) rfl rfl rfl
 |ptr t b o q g j p r=>exact d (.ptr t b o q g j p r) rfl rfl rfl
 |fn f=>exact d (.fn f) rfl rfl rfl
 |dh f t q g j=>exact d (.dh f t q g j) rfl rfl rfl
 |li=>exact d .li rfl rfl rfl
 |lj=>exact d .lj rfl rfl rfl
 |lf=>exact d .lf rfl rfl rfl
 |mp id K L b u A B g j p r y z=>exact d (.mp id K L b u A B g j p r y z) rfl rfl rfl
end Vm
namespace Vm
open Go
inductive KC where
 |b|i (k:IntKind)|s
 deriving DecidableEq,Inhabited
inductive E where
 |c (v:V)
 |s (t:Nat)
 |m (t i:Nat)
 |mm (t i n:Nat)
 |cb (op:BinOp) (a b:E)
 |gz (neg:Bool) (a b:E)
 |un (op:UnOp) (a:E)
 |bo (k:IntKind) (a:E)
 |len (a:E)
 |mn (a b:E)
 |mx (a b:E)
 |ext (a:E) (i:Nat)
 |bc (a i:E) (k:Nat)
 |ac (a:E) (o:Nat)
 |bp (a:E) (o n:Nat)
 |ai (a i:E) (n k:Nat) (ag:Bool)
 |ig (a lo hi:E) (k:Nat)
 |gj (a lo:E) (k:Nat)
 |ct (a b:E) (k:Nat)
 |gl (a i:E) (o:Nat) (b:E)
 |dk (a i:E) (n k:Nat) (b:E)
 |mk (z:V) (n:E)
 |lit (l:List E)
 |ag (l:List E)
 |ite (c a b:E)
 |au (a:E)
 |dy (a:E)
 |aj (a:E)
 |sz (a:E) (n:Nat)
 |fl (a:E)
 |kj (a:E)
 |lk (kc:KC) (a k:E) (z:V) (ok:Bool)
 |ep (kc:KC) (a k v:E)
 |fe (a:E)
 |ga (a:E)
 |pt (f:Option FuncId) (l:List E)
 deriving Inhabited
inductive SV where
 |no
 |v (x:V)
 |m (cs:List V)
 deriving Inhabited
abbrev St:=List SV
def ZJ(s:St)(t:Nat):SV:=(s[t]?).getD .no
def Ye:Nat:=4294967296
def X2:BinOp->V->V->Option V
 |.add,.int k a,.int d b=>if k=d then J (.int k<|k.wrap<|a+b)else U
 |.sub,.int k a,.int d b=>if k=d then J (.int k<|k.wrap<|a-b)else U
 |.mul,.int k a,.int d b=>if k=d then J (.int k<|k.wrap<|a*b)else U
 |.quo,.int k a,.int d b=>if k=d/\b≠0 then J (.int k<|k.wrap<|a.tdiv b)else U
 |.rem,.int k a,.int d b=>if k=d/\b≠0 then J (.int k<|a.tmod b)else U
 |.and,.int k a,.int d b=>if k=d then J (.int k<|k.wrap (BitVec.ofInt k.bits a&&& BitVec.ofInt k.bits b).toNat)else U
 |.or,.int k a,.int d b=>if k=d then J (.int k<|k.wrap (BitVec.ofInt k.bits a|||BitVec.ofInt k.bits b).toNat)else U
 |.xor,.int k a,.int d b=>if k=d then J (.int k<|k.wrap (BitVec.ofInt k.bits a ^^^ BitVec.ofInt k.bits b).toNat)else U
 |.shl,.int k a,.int _ b=>if 0<=b then J (.int k<|k.wrap<|a*2 ^ (min b.toNat k.bits))else U
 |.shr,.int k a,.int _ b=>if 0<=b then J (.int k<|a.fdiv<|2 ^ (min b.toNat k.bits))else U
 |.eql,.int k a,.int d b=>if k=d then J (.bool<|a==b)else U
 |.neq,.int k a,.int d b=>if k=d then J (.bool<|a !=b)else U
 |.lss,.int k a,.int d b=>if k=d then J (.bool<|decide (a<b))else U
 |.leq,.int k a,.int d b=>if k=d then J (.bool<|decide (a<=b))else U
 |.gtr,.int k a,.int d b=>if k=d then J (.bool<|decide (a>b))else U
 |.geq,.int k a,.int d b=>if k=d then J (.bool<|decide (a≥b))else U
 |_,_,_=>U
def TS(neg:Bool):V->V->Option V
 |.bool a,.bool b=>J<|.bool<|neg ^^ (a==b)
 |_,_=>U
def Tx:UnOp->V->Option V
 |.neg,.int k n=>J<|.int k<|k.wrap<|0-n
 |.not,.bool b=>J<|.bool !b
 |_,_=>U
def RA(k:IntKind):V->Option V
 |.int _ n=>J<|.int k<|k.wrap n
 |_=>U
def SJ:V->Option V
 |.sl l=>J<|.int .i64<|I l
 |_=>U
def SM:V->V->Option V
 |.int k x,.int _ y=>J<|.int k (if y<x then y else x)
 |_,_=>U
def SL:V->V->Option V
 |.int k x,.int _ y=>J<|.int k (if y>x then y else x)
 |_,_=>U
def Tc:V->Nat->Option V
 |.am l,i=>l[i]?
 |_,_=>U
def YZ(x i:V)(k:Nat):Option V:=
 match x,i with
 |.sl l,.int _ i=>if 0<=i then(l[i.toNat]?).bind λz=>if I z.cells=k then J z else U else U
 |_,_=>U
def V.pc:V->List V
 |.agg a=>a
 |x=>[x]
def UA:V->Option V
 |.ptr a=>J<|.agg a
 |_=>U
def YS(x:V):Option V:=if x.aj then J x else U
def Vu(x:V)(n:Nat):Option V:=if I x.cells=n then match x with|.am _=>U|x=>J x else U
def SF:V->Option V
 |.agg a=>J<|.agg a
 |_=>U
def Ya(x:V)(o:Nat):Option V:=(x.pc[o]?).bind YS
def Xy(k:Nat)(l:List V):Bool:=l.all λx=>I x.cells==k
def Ug(x:V)(o n:Nat):Option V:=if o+n<=(I x.pc) then J (.agg<|(x.pc.drop o).take n)else U
def Y4(x i:V)(n k:Nat)(ag:Bool):Option V:=
 match x,i with
 |.agg a,.int _ i=>if 0<=i/\i<n/\I a=n*k then(if ag then J (.agg<|(a.drop<|i.toNat*k).take k)else a[i.toNat*k]?)else U
 |_,_=>U
def Rf(k:Nat):V->V->V->Option V
 |.sl l,.int _ a,.int _ b=>if 0<=a/\a<=b/\b<=I l/\Xy k l=xk then J (.sl<|(l.take b.toNat).drop a.toNat)else U
 |_,_,_=>U
def Qj(k:Nat):V->V->Option V
 |.sl l,.int _ a=>if 0<=a/\a<=I l/\Xy k l=xk then J (.sl<|l.drop a.toNat)else U
 |_,_=>U
def So(k:Nat):V->V->Option V
 |.sl a,.sl b=>if I a+I b<=Ye/\Xy k b=xk then J (.sl<|a++b)else U
 |_,_=>U
def setCells(cs:List V)(o:Nat)(b:List V):List V:=cs.take o++b++cs.drop (o+I b)
def V.put(x:V)(o:Nat)(b:List V):V:=
 match x with
 |.agg a=>.agg<|setCells a o b
 |_=>b.headD x
def Sf(x i:V)(o:Nat)(b:V):Option V:=
 match x,i with
 |.sl l,.int _ i=>if 0<=i then(l[i.toNat]?).bind λy=>if o+I b.cells<=I y.cells/\b.cells≠[]then J (.sl<|l.set i.toNat<|y.put o b.cells)else U else U
 |_,_=>U
def Ua(x i:V)(n k:Nat)(b:V):Option V:=
 match x,i with
 |.agg a,.int _ i=>if 0<=i/\i<n/\I a=n*k/\I b.cells=k then J (.agg<|setCells a (i.toNat*k) b.cells)else U
 |_,_=>U
def J9(z:V):V->Option V
 |.int _ n=>if 0<=n/\n<=Ye then J (.sl<|List.replicate n.toNat z)else U
 |_=>U
def Tb(l:List V):V:=.agg<|flat l
def V.bq:V->Bool
 |.int .. |.bool _|.str _=>xk
 |_=>xw
def Ws(x:V):Option V:=
 match x with
 |.am _=>U
 |x=>if x.cells.all V.bq then J x else U
def ym(x:V):Option V:=
 match x with
 |.sl l=>if(Vm.flat l).all V.bq then J x else U
 |_=>U
def KU:V->V->Option Bool
 |.int k a,.int d b=>if k=d then J (a==b)else U
 |.bool a,.bool b=>J<|a==b
 |.str a,.str b=>J<|a==b
 |_,_=>U
def TU(k:V):List V->Option (Option Nat)
 | []=>J U
 |y::l=>match KU k y with
  |some xk=>J<|J 0
  |some xw=>(TU k l).map λr=>r.map (· +1)
  |none=>U
def Vl:KC->V->Bool
 |.b,.bool _=>xk
 |.i k,.int a _=>decide (k=a)
 |.s,.str _=>xk
 |_,_=>xw
def Tk(a:KC)(x k z:V)(ok:Bool):Option V:=
 if Vl a k=xw then U else
 match x with
 | .mp _ d f=>match TU k d with
   |some (J i)=>(f[i]?).map λv=>if ok then .am [v,.bool xk]else v
   |some U=>J (if ok then .am [z,.bool xw]else z)
   |none=>U
 |_=>U
def Tl(f:KC)(x k v:V):Option V:=
 if Vl f k=xw then U else
 match x with
 | .mp id a d=>match TU k a with
   |some (J i)=>J<|.mp id a<|d.set i v
   |some U=>J<|.mp id (a++[k])<|d++[v]
   |none=>U
 |_=>U
def J6:V->Option V
 |.mp id _ _=>J<|.mp id [] []
 |_=>U
def TZ:V->Option V
 |.mp _ a _=>J<|.int .i64<|I a
 |_=>U
def RO(c:V)(a b:Option V):Option V:=
 match c with
 |.bool xk=>a
 |.bool xw=>b
 |_=>U
def JC(f:Option FuncId)(l:List V):Option V:=
 match f with
 |none=>if l.all V.aj then J (.ptr l)else U
 |some f=>J<|.dh f l
mutual
def eval(s:St):E->Option V
 |.c v=>J v
 |.s t=>match ZJ s t with|.v x=>J x|_=>U
 |.m t i=>match ZJ s t with|.m d=>(d[i]?).bind YS|_=>U
 |.mm t i n=>match ZJ s t with|.m d=>if i+n<=(I d) then J (.agg<|(d.drop i).take n)else U|_=>U
 |.cb op a b=>(eval s a).bind λx=>(eval s b).bind λy=>X2 op x y
 |.gz n a b=>(eval s a).bind λx=>(eval s b).bind λy=>TS n x y
 |.un op a=>(eval s a).bind<|Tx op
 |.bo k a=>(eval s a).bind<|RA k
 |.len a=>(eval s a).bind SJ
 |.mn a b=>(eval s a).bind λx=>(eval s b).bind λy=>SM x y
 |.mx a b=>(eval s a).bind λx=>(eval s b).bind λy=>SL x y
 |.ext a i=>(eval s a).bind λx=>Tc x i
 |.bc a i k=>(eval s a).bind λx=>(eval s i).bind λy=>YZ x y k
 |.ac a o=>(eval s a).bind λx=>Ya x o
 |.bp a o n=>(eval s a).bind λx=>Ug x o n
 |.ai a i n k ag=>(eval s a).bind λx=>(eval s i).bind λy=>Y4 x y n k ag
 |.ig a h j k=>(eval s a).bind λx=>(eval s h).bind λy=>(eval s j).bind λz=>Rf k x y z
 |.gj a h k=>(eval s a).bind λx=>(eval s h).bind λy=>Qj k x y
 |.ct a b k=>(eval s a).bind λx=>(eval s b).bind λy=>So k x y
 |.gl a i o b=>(eval s a).bind λx=>(eval s i).bind λy=>(eval s b).bind λz=>Sf x y o z
 |.dk a i n k b=>(eval s a).bind λx=>(eval s i).bind λy=>(eval s b).bind λz=>Ua x y n k z
 |.mk z n=>(eval s n).bind<|J9 z
 |.lit l=>(YB s l).map .sl
 |.ag l=>(YB s l).map Tb
 |.ite c a b=>(eval s c).bind λx=>RO x (eval s a)<|eval s b
 |.au a=>(eval s a).bind UA
 |.dy a=>(eval s a).bind SF
 |.aj a=>(eval s a).bind YS
 |.sz a n=>(eval s a).bind λx=>Vu x n
 |.fl a=>(eval s a).bind Ws
 |.kj a=>(eval s a).bind ym
 |.lk g a k z ok=>(eval s a).bind λx=>(eval s k).bind λy=>Tk g x y z ok
 |.ep g a k v=>(eval s a).bind λx=>(eval s k).bind λy=>(eval s v).bind λz=>Tl g x y z
 |.fe a=>(eval s a).bind TZ
 |.ga a=>(eval s a).bind J6
 |.pt f l=>(YB s l).bind<|JC f
def YB(s:St):List E->Option (List V)
 | []=>J []
 |e::l=>(eval s e).bind λx=>(YB s l).map (x:: ·)
end
mutual
def V.same:V->V->Bool
 |.int k n,.int h j=>decide (k=h)&&decide (n=j)
 |.bool a,.bool b=>a==b
 |.sl a,.sl b=>V.ci a b
 |.agg a,.agg b=>V.ci a b
 |.am a,.am b=>V.ci a b
 |.fn a,.fn b=>a==b
 |.mp i a b,.mp g d f=>i==g&&V.ci a d&&V.ci b f
 |_,_=>xw
def V.ci:List V->List V->Bool
 | [],[]=>xk
 |a::l,b::r=>V.same a b&&V.ci l r
 |_,_=>xw
end
mutual
def E.same:E->E->Bool
 |.c a,.c b=>V.same a b
 |.s a,.s b=>a==b
 |.m a i,.m b j=>a==b&&i==j
 |.mm a i n,.mm b j w=>a==b&&i==j&&n==w
 |.cb o a b,.cb u h p=>decide (o=u)&&E.same a h&&E.same b p
 |.gz o a b,.gz u h p=>o==u&&E.same a h&&E.same b p
 |.un o a,.un u h=>decide (o=u)&&E.same a h
 |.bo k a,.bo t h=>decide (k=t)&&E.same a h
 |.len a,.len b=>E.same a b
 |.mn a b,.mn h p=>E.same a h&&E.same b p
 |.mx a b,.mx h p=>E.same a h&&E.same b p
 |.ext a i,.ext b j=>E.same a b&&i==j
 |.bc a b k,.bc h p t=>E.same a h&&E.same b p&&k==t
 |.ac a o,.ac b u=>E.same a b&&o==u
 |.bp a o n,.bp b u w=>E.same a b&&o==u&&n==w
 |.ai a i n k g,.ai h x w t C=>E.same a h&&E.same i x&&n==w&&k==t&&g==C
 |.ig a b d k,.ig h p y t=>E.same a h&&E.same b p&&E.same d y&&k==t
 |.gj a b k,.gj h p t=>E.same a h&&E.same b p&&k==t
 |.ct a b k,.ct h p t=>E.same a h&&E.same b p&&k==t
 |.gl a i o b,.gl h x u p=>E.same a h&&E.same i x&&o==u&&E.same b p
 |.dk a i n k b,.dk h x w t p=>E.same a h&&E.same i x&&n==w&&k==t&&E.same b p
 |.mk z n,.mk B w=>V.same z B&&E.same n w
 |.lit l,.lit r=>E.ci l r
 |.ag l,.ag r=>E.ci l r
 |.au a,.au b=>E.same a b
 |.dy a,.dy b=>E.same a b
 |.aj a,.aj b=>E.same a b
 |.sz a n,.sz b w=>E.same a b&&n==w
 |.fl a,.fl b=>E.same a b
 |.kj a,.kj b=>E.same a b
 |.lk q a k z o,.lk A h t B u=>decide (q=A)&&E.same a h&&E.same k t&&V.same z B&&o==u
 |.ep q a k v,.ep A h t D=>decide (q=A)&&E.same a h&&E.same k t&&E.same v D
 |.fe a,.fe b=>E.same a b
 |.ga a,.ga b=>E.same a b
 |.pt f l,.pt g r=>f==g&&E.ci l r
 |.ite a b d,.ite h p y=>E.same a h&&E.same b p&&E.same d y
 |_,_=>xw
def E.ci:List E->List E->Bool
 | [],[]=>xk
 |a::l,b::r=>E.same a b&&E.ci l r
 |_,_=>xw
end
mutual
def E.aw(x:E):E->Bool
 |.cb o a b=>E.same x (.cb o a b)||E.aw x a||E.aw x b
 |.gz o a b=>E.same x (.gz o a b)||E.aw x a||E.aw x b
 |.un o a=>E.same x (.un o a)||E.aw x a
 |.bo k a=>E.same x (.bo k a)||E.aw x a
 |.len a=>E.same x (.len a)||E.aw x a
 |.mn a b=>E.same x (.mn a b)||E.aw x a||E.aw x b
 |.mx a b=>E.same x (.mx a b)||E.aw x a||E.aw x b
 |.ext a i=>E.same x (.ext a i)||E.aw x a
 |.bc a b k=>E.same x (.bc a b k)||E.aw x a||E.aw x b
 |.ac a o=>E.same x (.ac a o)||E.aw x a
 |.bp a o n=>E.same x (.bp a o n)||E.aw x a
 |.ai a i n k g=>E.same x (.ai a i n k g)||E.aw x a||E.aw x i
 |.ig a b d k=>E.same x (.ig a b d k)||E.aw x a||E.aw x b||E.aw x d
 |.gj a b k=>E.same x (.gj a b k)||E.aw x a||E.aw x b
 |.ct a b k=>E.same x (.ct a b k)||E.aw x a||E.aw x b
 |.gl a i o b=>E.same x (.gl a i o b)||E.aw x a||E.aw x i||E.aw x b
 |.dk a i n k b=>E.same x (.dk a i n k b)||E.aw x a||E.aw x i||E.aw x b
 |.mk z n=>E.same x (.mk z n)||E.aw x n
 |.lit l=>E.same x (.lit l)||E.ia x l
 |.ag l=>E.same x (.ag l)||E.ia x l
 |.ite a b d=>E.same x (.ite a b d)||E.aw x a
 |.au a=>E.same x (.au a)||E.aw x a
 |.dy a=>E.same x (.dy a)||E.aw x a
 |.aj a=>E.same x (.aj a)||E.aw x a
 |.sz a n=>E.same x (.sz a n)||E.aw x a
 |.fl a=>E.same x (.fl a)||E.aw x a
 |.kj a=>E.same x (.kj a)||E.aw x a
 |.lk q a k z o=>E.same x (.lk q a k z o)||E.aw x a||E.aw x k
 |.ep q a k v=>E.same x (.ep q a k v)||E.aw x a||E.aw x k||E.aw x v
 |.fe a=>E.same x (.fe a)||E.aw x a
 |.ga a=>E.same x (.ga a)||E.aw x a
 |.pt f l=>E.same x (.pt f l)||E.ia x l
 |.c v=>E.same x<|.c v
 |.s t=>E.same x<|.s t
 |.m t i=>E.same x<|.m t i
 |.mm t i n=>E.same x<|.mm t i n
def E.ia(x:E):List E->Bool
 | []=>xw
 |a::l=>E.aw x a||E.ia x l
end
def E.dg:E->Bool
 |.c v=>v.aj
 |.m .. |.cb .. |.gz .. |.un .. |.bo .. |.len _|.mn .. |.mx .. |.ac .. |.ig .. |.gj .. |.ct .. |.gl .. |.mk .. |.lit _|.aj _|.ep .. |.fe _|.ga _=>xk
 |.ite _ a b=>E.dg a&&E.dg b
 |_=>xw
def E.nw(n:Nat):E->Bool
 |.mm _ _ k=>k==n
 |.bp _ _ k=>k==n
 |.ag l=>I l==n&&l.all E.dg
 |.sz _ k=>k==n
 |_=>xw
def Li(e:E):E:=if e.dg then e else .aj e
def A2(e:E)(n:Nat):E:=if e.nw n then e else .sz e n
def WL(ag:Bool)(n:Nat)(e:E):E:=if ag then A2 e n else Li e
inductive TD where
 |sc|sl (e:TypeId)|st (fs:List<|Nat×Nat×Bool×Bool)|ar (n:Nat) (e:TypeId)|pt (e:TypeId)|no
 deriving DecidableEq,Inhabited
def WP:Value->Option V
 |.int k n=>J<|.int k n
 |.bool b=>J<|.bool b
 |.string s=>J<|.str s
 |.slice U 0 0=>J<|.sl []
 |.func (.func f) first a=>if first.size=0/\a.size=0 then J (.fn f)else U
 |.map U=>J<|.mp 0 [] []
 |.pointer U=>J<|.lz 0
 |.nilFunc=>J<|.lz 1
 |_=>U
def Y9(P:Program)(t:TypeId):Bool:=
 match P.underlying t with
 |some (.struct _)|some (.array _ _)=>xk
 |_=>xw
def zeroCells(P:Program)(t:TypeId):Option<|List V:=
 ((P.info? t).bind (·.zero)).bind λz=>z.cells.toList.mapM WP
def XB(P:Program)(t:TypeId):Bool:=
 match P.underlying t with
 |some .bool|some (.int _)|some .string=>xk
 |some (.struct _)|some (.array _ _)=>match zeroCells P t with|some l=>l.all V.bq|none=>xw
 |some (.tuple a)=>a.all λu=>match P.underlying u with
  |some .bool|some (.int _)|some .string=>xk
  |some (.struct _)|some (.array _ _)=>(match zeroCells P u with|some l=>l.all V.bq|none=>xw)
  |_=>xw
 |_=>xw
def YN(P:Program)(T:TypeId):Bool:=(P.underlying T).isSome&&(P.info? T).isSome
def Vb(P:Program)(t:TypeId):TD:=
 match P.underlying t with
 |some .bool|some (.int _)|some .string=>.sc
 |some (.slice e)=>.sl e
 |some (.struct a)=>if a.toList.all (λf=>YN P f.type)then .st (a.toList.map λf=>(f.offset,P.cellsOf f.type,Y9 P f.type,XB P f.type))else .no
 |some (.array n e)=>.ar n e
 |some (.pointer e)=>.pt e
 |_=>.no
def VN(P:Program)(a:TypeId):Bool:=
 match P.info? a with
 |some i=>match i.zero with
  |some z=>z.cells.size==i.size&&decide (0<i.size)&&decide (i.bytes<=32768)
  |none=>xw
 |none=>xw
inductive CK where
 |fz|own (ty:TypeId)|nil|gu
 deriving DecidableEq,Inhabited
inductive OT where
 |fz|own (ty:TypeId)|nil|mem (l:List CK)|dh (f:FuncId) (caps:List Nat)
 deriving DecidableEq,Inhabited
inductive TK where
 |no
 |val (e:E) (sh:List Nat)
 |own (ty:TypeId) (e:E)
 |nil
 |mem (cs:List<|CK×E)
 |kf (cs:List<|CK×E)
 |im (p:Nat)
 |ge (p i:Nat)
 |pm (p o:Nat)
 |pc (e:E) (o:Nat) (sh:List Nat)
 |pe (p:Nat) (i:Option Nat) (j:E) (o k:Nat)
 |pa (p o:Nat) (j:E) (n k:Nat)
 |dh (f:FuncId) (caps:List Nat)
 |ni (e:E) (sh:List Nat)
 deriving Inhabited
def TK.bu:TK->Bool
 |.no=>xk
 |_=>xw
abbrev ZI:=List<|Nat×Bool
abbrev Gam:=List<|Nat×ZI×TK
def Gam.at(g:Gam)(t:Nat):ZI×TK:=
 match g with
 | []=>([],.no)
 |(u,x)::r=>if u=t then x else Gam.at r t
def memOf(g:Gam)(p:Nat):Option<|List<|CK×E:=
 match g.at p with
 |([],.mem a)=>J a
 |_=>U
def ownOf(g:Gam)(p:Nat):Option<|TypeId×E:=
 match g.at p with
 |([],.own a e)=>J (a,e)
 |_=>U
def Sq(a b:ZI):Bool:=a.all λx=>b.contains x
def look(g:Gam)(C:ZI)(t:Nat):TK:=let x:=g.at t;if Sq x.1 C then x.2 else .no
def U9(cs:List<|CK×E):Bool:=cs.any λc=>match c.1 with|.own _=>xk|_=>xw
def Wd(cs:List<|CK×E):Bool:=cs.any λc=>c.1==.gu
def ownAt(g:Gam):TK->Option (TypeId×E)
 |.im p=>ownOf g p
 | .ge p i=>(memOf g p).bind λa=>match a[i]? with
   |some (.own d,e)=>J (d,e)
   |_=>U
 |_=>U
def XV(g:Gam)(k:TK)(t:Nat):Option<|E×List Nat:=
 match k with
 |.val e d=>J (e,d)
 |.own _ e=>J (e,[t])
 |.nil=>J (.c<|.sl [],[])
 |.kf a=>if Wd a then U else J (.ag (a.map (·.2)),if U9 a then [t]else [])
 |.im p=>(ownAt g<|.im p).map λx=>(x.2,[p])
 |.ge p i=>(ownAt g<|.ge p i).map λx=>(x.2,[p])
 |_=>U
def Ym(g:Gam)(C:ZI)(x:Operand):TK:=
 match x with
 |.const (.slice U 0 0)=>.nil
 |.const v=>match WP v with|some x=>.val (.c x) [] |none=>.no
 |.tmp t=>look g C t
 |.func f=>.val (.c<|.fn f) []
 |_=>.no
def S2:Operand->Nat
 |.tmp t=>t
 |_=>0
def Yy(g:Gam)(C:ZI)(x:Operand):Option<|E×List Nat:=
 XV g (Ym g C x) (match x with|.tmp t=>t|_=>0)
def XG(fl:Bool)(b:E×List Nat):E×List Nat:=if b.2.isEmpty then b else if fl then(.fl b.1,[])else b
def Jp(g:Gam)(C:ZI)(fl:Bool):List Operand->Option (List E×List Nat)
 | []=>J ([],[])
 |x::l=>(Yy g C x).bind λd=>(Jp g C fl l).map λb=>let a:=XG fl d;(a.1::b.1,a.2++b.2)
def QF(g:Gam):List Nat->Option (List E)
 | []=>J []
 |p::l=>(memOf g p).bind λa=>if Wd a then U else(QF g l).map λd=>.pt U (a.map (·.2))::d
def VM(g:Gam)(k:TK)(t:Nat):Option<|E×List Nat:=
 match k with
 |.mem d=>if Wd d then U else J (.pt U (d.map (·.2)),[t])
 |.pm p 0=>(memOf g p).bind λd=>if Wd d then U else J (.pt U (d.map (·.2)),[p])
 |.dh f a=>(QF g a).map λh=>(.pt (J f) h,a)
 |.ni e j=>J (e,j)
 |_=>U
def zI(g:Gam)(C:ZI)(fl:Bool)(x:Operand):Option<|E×List Nat×Bool:=
 match Yy g C x with
 |some a=>J ((XG fl a).1,(XG fl a).2,xw)
 |none=>(VM g (Ym g C x)<|S2 x).map λa=>(a.1,a.2,xk)
def QB(P:Program)(g:Gam)(C:ZI):List Operand->List TypeId->Option (List E×List Nat×Bool)
 | [],_=>J ([],[],xw)
 |x::l,d=>(zI g C (match d with|t::_=>XB P t| []=>xw) x).bind λa=>(QB P g C l d.tail).map λb=>(a.1::b.1,a.2.1++b.2.1,a.2.2||b.2.2)
def Us(p:Nat):Nat->List (CK×E)->Bool
 |_,[]=>xk
 |i,(_,.m q j)::r=>p==q&&i==j&&Us p (i+1) r
 |_,_=>xw
def Ab:TK->List E
 |.val e _=>[e]
 |_=>[]
structure Ctx where
 P:Program
 ix:Nat->Nat
 own:Nat->Bool
 fresh:FuncId->Bool
 sig:FuncId->Option (List OT)
 tr:List Nat
 n:Nat
 kp:List Nat:=[]
def L0(c:Ctx)(g:Gam)(T:TypeId)(p o:Nat):Option TK:=
 (memOf g p).bind λa=>
  if Y9 c.P T then
   let part:=(a.drop o).take<|c.P.cellsOf T
   if I part=c.P.cellsOf T/\Wd part=xw/\0<c.P.cellsOf T then
    J (.val (if Us (c.ix p) o part then .mm (c.ix p) o (I part) else .ag (part.map (·.2)))<|if U9 part then [p]else [])
   else U
  else match a[o]? with
   |some (.fz,e)=>J<|.val e []
   |some (.own _,_)=>J<|.ge p o
   |some (.nil,_)=>J .nil
   |_=>U
def yT(c:Ctx)(g:Gam)(T:TypeId)(p o:Nat)(j:E)(m k:Nat):Option TK:=
 (memOf g p).bind λa=>
  let part:=(a.drop o).take<|m*k
  if I part=m*k/\c.P.cellsOf T=k/\0<m*k/\U9 part=xw/\Wd part=xw then
   J (.val (.ai (if Us (c.ix p) o part then .mm (c.ix p) o (I part) else .ag (part.map (·.2))) j m k<|Y9 c.P T) [])
  else U
def QI(c:Ctx)(T:TypeId)(e:E)(o:Nat):E:=if Y9 c.P T then .bp e o (c.P.cellsOf T)else .ac e o
def SW(p:Nat):Option Nat->TK
 |none=>.im p
 |some i=>.ge p i
def yU(c:Ctx)(g:Gam)(T:TypeId)(p:Nat)(i:Option Nat)(j:E)(o k:Nat):Option TK:=
 (ownAt g<|SW p i).bind λx=>if c.P.cellsOf x.1=k then J (.val (QI c T (.bc x.2 j k) o) [p])else U
def Cg(c:Ctx)(g:Gam)(T:TypeId)(k:TK)(t:Nat):Option TK:=
 match k with
 |.mem _=>L0 c g T t 0
 |.pm p o=>L0 c g T p o
 |.pc e o a=>J<|.val (QI c T e o) a
 |.val e a=>J<|.val (QI c T (.au e) 0) a
 |.pe p i j o k=>yU c g T p i j o k
 |.pa p o j m k=>yT c g T p o j m k
 |_=>U
def QO(P:Program)(T:TypeId)(f:Nat):Option<|Nat×Nat×Bool×Bool:=
 match Vb P T with
 |.st a=>a[f]?
 |_=>U
abbrev PK:=Option<|TK×List E
def TK.lc:TK->Bool
 |.own .. |.mem _|.kf _|.no=>xw
 |_=>xk
def je(g:Gam)(C:ZI)(x:Operand):PK:=
 if(Ym g C x).lc then J (Ym g C x,[])else
 match x,Ym g C x with
 |.tmp t,.own _ _=>J (.im t,[])
 |.tmp t,.mem _=>J (.pm t 0,[])
 |.tmp t,.kf a=>(XV g (.kf a) t).map λy=>(.val y.1 y.2,[])
 |_,_=>U
def jf(g:Gam)(C:ZI)(x:Operand):PK:=
 match Ym g C x with
 |.mem _=>J (.pm (S2 x) 0,[])
 |.pm p o=>J (.pm p o,[])
 |.val e a=>J (.val e a,[.au e])
 |_=>U
def qR(c:Ctx)(g:Gam)(C:ZI)(ty:TypeId)(x:Operand):PK:=
 match Ym g C x with
 |.val e []=>J (.val e [],[])
 |.val e (p::d)=>if XB c.P ty then J (.val (.fl e) [],[.fl e])else U
 |.nil=>J (.nil,[])
 |.dh f a=>J (.dh f a,[])
 |_=>U
def qP(c:Ctx)(T:TypeId):PK:=
 (zeroCells c.P T).bind λz=>if z.isEmpty then U else J (.mem (z.map λx=>((match x with|.sl _=>CK.nil|_=>.fz),E.c x)),[])
def qT(c:Ctx)(g:Gam)(C:ZI)(T:TypeId)(x:Operand):PK:=
 match Ym g C x with
 | .val a []=>
   if YN c.P T then
    let e:=WL (Y9 c.P T) (c.P.cellsOf T) a
    if Y9 c.P T then J (.mem ((List.range<|c.P.cellsOf T).map λi=>(CK.fz,E.ac e i)),[e])else J (.mem [(.fz,e)],[e])
   else U
 |_=>U
def zW(P:Program)(T:TypeId):Bool:=
 match P.underlying T with
 |some .bool=>xk
 |_=>xw
def Rx(P:Program)(a:TypeId->Nat->Option E)(n o:Nat):List Field->Option E
 | []=>J<|.c<|.bool xk
 |f::l=>if f.name≠ "_" /\f.offset+P.cellsOf f.type<=n then(a f.type<|o+f.offset).bind λx=>(Rx P a n o l).map λy=>.ite x y (.c<|.bool xw)else U
def VO(P:Program)(a b:E):Nat->TypeId->Nat->Option E
 |0,_,_=>U
 |d+1,T,o=>
  match P.underlying T with
  |some .bool=>if P.cellsOf T=1 then J (.gz xw (.ac a o)<|.ac b o)else U
  |some (.int _)=>if P.cellsOf T=1 then J (.cb .eql (.ac a o)<|.ac b o)else U
  |some (.struct f)=>if f.toList≠[]/\P.cellsOf T≠0/\P.stoodInHeld T=xw then Rx P (VO P a b d) (P.cellsOf T) o f.toList else U
  |_=>U
def RE(P:Program)(T:TypeId)(a b:E):Option E:=
 if Y9 P T/\P.eqGuardType P.depth T=xw then VO P (.sz (.dy a)<|P.cellsOf T) (.sz (.dy b)<|P.cellsOf T) 4 T 0 else U
def Ko(P:Program)(T:TypeId)(op:BinOp)(a b:E):E:=
 if zW P T then match op with
  |.eql=>.gz xw a b
  |.neq=>.gz xk a b
  |_=>.cb op a b
 else match op with
  |.eql=>(RE P T a b).getD<|.cb op a b
  |.neq=>((RE P T a b).map<|.un .not).getD<|.cb op a b
  |_=>.cb op a b
def qS(c:Ctx)(g:Gam)(C:ZI)(op:BinOp)(T:TypeId)(x y:Operand):PK:=
 (Yy g C x).bind λa=>(Yy g C y).map λb=>let e:=Ko c.P T op a.1 b.1;(.val e [],[e])
def Eg(g:Gam)(C:ZI)(op:UnOp)(x:Operand):PK:=(Yy g C x).map λa=>(.val (.un op a.1) [],[.un op a.1])
def Ed(c:Ctx)(g:Gam)(C:ZI)(f d:TypeId)(x:Operand):PK:=
 if(c.P.underlying f).isNone then U else
 match c.P.underlying d with
 |some (.int k)=>(Yy g C x).map λa=>(.val (.bo k a.1) [],[.bo k a.1])
 |_=>U
def Ee(c:Ctx)(g:Gam)(C:ZI)(ty:TypeId)(x:Operand)(i:Nat):PK:=
 (Yy g C x).map λa=>let y:=XG (XB c.P ty) (.ext a.1 i,a.2);(.val y.1 y.2,[y.1])
def qZ(c:Ctx)(g:Gam)(C:ZI)(T:TypeId)(a:Operand):PK:=
 if YN c.P T then(Cg c g T (Ym g C a)<|S2 a).map λk=>(k,Ab k)else U
def qV(c:Ctx)(g:Gam)(C:ZI)(T:TypeId)(a:Operand)(f:Nat):PK:=
 (QO c.P T f).bind λx=>if x.2.1=0 then U else
  match Ym g C a with
  |.mem _=>J (.pm (S2 a) x.1,[])
  |.pm p q=>J (.pm p<|q+x.1,[])
  |.pc e q d=>J (.pc e (q+x.1) d,[])
  |.val e d=>J (.pc (.au e) x.1 d,[.au e])
  |.pe p i j q k=>J (.pe p i j (q+x.1) k,[])
  |_=>U
def KS(c:Ctx)(g:Gam)(p:Nat)(i:Option Nat)(a:TypeId)(j:E):PK:=
 (ownAt g<|SW p i).bind λx=>if c.P.cellsOf x.1=c.P.cellsOf a/\YN c.P a=xk then J (.pe p i j 0<|c.P.cellsOf a,[.bc x.2 j<|c.P.cellsOf a])else U
def qY(c:Ctx)(g:Gam)(C:ZI)(T:TypeId)(x i:Operand):PK:=
 match Vb c.P T with
 | .sl a=>(Yy g C i).bind λj=>
   match Ym g C x with
   |.im p=>KS c g p U a j.1
   |.ge p q=>KS c g p (J q) a j.1
   |.val e d=>if YN c.P a then J (.pc (.bc e j.1<|c.P.cellsOf a) 0 d,[.bc e j.1<|c.P.cellsOf a])else U
   |_=>U
 | .ar n a=>if !YN c.P a then U else(Yy g C i).bind λj=>
   match Ym g C x with
   |.mem _=>J (.pa (S2 x) 0 j.1 n<|c.P.cellsOf a,[.ai (.c<|.agg<|List.replicate n<|.bool xk) j.1 n 1 xw])
   |.pm p o=>J (.pa p o j.1 n<|c.P.cellsOf a,[.ai (.c<|.agg<|List.replicate n<|.bool xk) j.1 n 1 xw])
   |.pc e q d=>let f:=E.ai (.bp e q<|n*c.P.cellsOf a) j.1 n (c.P.cellsOf a) xk;J (.pc f 0 d,[f])
   |_=>U
 |_=>U
def qW(c:Ctx)(g:Gam)(C:ZI)(T:TypeId)(x:Operand)(f:Nat):PK:=
 (QO c.P T f).bind λy=>if y.2.1=0 then U else(Yy g C x).map λa=>
  let e:=if y.2.2.1 then E.bp (.dy a.1) y.1 y.2.1 else .ac (.dy a.1) y.1
  (.val e a.2,[e])
def qX(c:Ctx)(g:Gam)(C:ZI)(T:TypeId)(x i:Operand):PK:=
 match Vb c.P T with
 | .ar n d=>if !YN c.P d then U else(Yy g C x).bind λa=>(Yy g C i).map λb=>
   let e:=E.ai a.1 b.1 n (c.P.cellsOf d)<|Y9 c.P d
   (.val e a.2,[e])
 |_=>U
def Jo(g:Gam)(C:ZI):Option Operand->Option E
 |some l=>(Yy g C l).map Prod.fst
 |none=>J<|.c<|.int .i64 0
def qy(g:Gam)(C:ZI)(a l:E)(k:Nat):Option Operand->Option E
 |some h=>(Yy g C h).map λy=>.ig a l y.1 k
 |none=>J<|.gj a l k
def ji(c:Ctx)(g:Gam)(C:ZI)(T:TypeId)(x:Operand)(lo f:Option Operand):PK:=
 match Vb c.P T with
 | .sl d=>if YN c.P d then(Yy g C x).bind λa=>
   (Jo g C lo).bind λl=>(qy g C a.1 l (c.P.cellsOf d) f).map λe=>(.val e a.2,[e])else U
 |_=>U
def qM(g:Gam)(C:ZI)(n:Nat)(ag fl:Bool)(x:Operand):Option<|List (CK×E)×List Nat×List Nat:=
 match x,Ym g C x with
 |.tmp t,.own f e=>J ([(.own f,e)],[],[t])
 |_,.nil=>J ([(.nil,.c<|.sl [])],[],[])
 |_,_=>(Yy g C x).map λd=>let a:=XG fl d;let e:=WL ag n a.1;(if ag then(List.range n).map λj=>(.fz,.ac e j)else [(.fz,e)],a.2,[])
abbrev BC:=List (CK×E)×List Nat×List Nat
def Ke(a:List V)(o n:Nat):BC:=(((a.drop o).take n).map λz=>((match z with|.sl _=>CK.nil|_=>CK.fz),E.c z),[],[])
def E6(g:Gam)(C:ZI)(a:List V)(parts:List<|Nat×Operand)(f:Nat×Nat×Bool×Bool)(i:Nat):Option BC:=
 match parts.find? (λp=>p.1==i)with
 |some p=>qM g C f.2.1 f.2.2.1 f.2.2.2 p.2
 |none=>J<|Ke a f.1 f.2.1
def Tn:List Nat->Bool
 | []=>xk
 |x::l=> !l.contains x&&Tn l
def QD(g:Gam)(C:ZI)(d:List V)(parts:List<|Nat×Operand):List (Nat×Nat×Bool×Bool)->Nat->Nat->Option BC
 | [],_,o=>if o=(I d) then J ([],[],[])else U
 |f::r,i,o=>(E6 g C d parts f i).bind λa=>if f.1=o/\I a.1=f.2.1/\f.2.1≠0 then(QD g C d parts r (i+1)<|o+f.2.1).map λb=>(a.1++b.1,a.2.1++b.2.1,a.2.2++b.2.2)else U
def Kq(g:Gam)(C:ZI)(d:List V)(parts:List<|Nat×Operand)(a:List<|Nat×Nat×Bool×Bool):Option BC:=
 if Tn (parts.map (·.1))&&parts.all (λp=>decide (p.1<I a))then QD g C d parts a 0 0 else U
def GV(cs:List<|CK×E):Bool:=cs.all λc=>c.1==.fz
def Lw(P:Program)(T:TypeId):Option<|List<|Nat×Nat×Bool×Bool:=
 match Vb P T with
 |.st d=>J d
 |.ar n a=>if YN P a then J ((List.range n).map λi=>(i*P.cellsOf a,P.cellsOf a,Y9 P a,XB P a))else U
 |_=>U
def Ec(c:Ctx)(g:Gam)(C:ZI)(T:TypeId)(parts:List<|Nat×Operand):PK:=
 (Lw c.P T).bind λa=>(zeroCells c.P T).bind λd=>(Kq g C d parts a).bind λb=>
  if b.2.2.isEmpty then
   let e:=E.ag (b.1.map (·.2))
   if b.2.1.isEmpty&& !GV b.1 then J (.kf b.1,[e])else J (.val e b.2.1,[e])
  else U
def T4(c:Ctx)(a:Option Nat)(f:TypeId)(e:E)(sh:List Nat):PK:=
 match a with
 |some d=>if c.own d&&sh.isEmpty then J (.own f e,[e])else J (.val e sh,[e])
 |none=>U
def qU(c:Ctx)(g:Gam)(C:ZI)(d:Option Nat)(T:TypeId)(n:Nat)(parts:List<|Nat×Operand):PK:=
 match Vb c.P T with
 | .sl a=>(Jp g C (XB c.P a) (parts.map (·.2))).bind λf=>
   if parts.map (·.1)=List.range n/\n<256/\c.P.cellsOf a<256/\VN c.P a=xk/\(Y9 c.P a=xk\/c.P.cellsOf a=1)then T4 c d a (.lit<|f.1.map<|WL (Y9 c.P a)<|c.P.cellsOf a) f.2 else U
 |_=>U
def jG:Operand->Operand->Bool
 |.tmp t,.tmp u=>t==u
 |.const (.int _ x),.const (.int _ y)=>x==y
 |_,_=>xw
def jb(c:Ctx)(g:Gam)(C:ZI)(f:Option Nat)(T:TypeId)(n m:Operand):PK:=
 match Vb c.P T with
 | .sl d=>(zeroCells c.P d).bind λz=>(Yy g C n).bind λa=>
   if jG n m&&VN c.P d&&(Y9 c.P d||I z==1)then T4 c f d (.mk (if Y9 c.P d then .agg z else z.headD<|.agg []) a.1) []else U
 |_=>U
def Ef(c:Ctx)(g:Gam)(C:ZI)(T:TypeId)(x:Operand):PK:=
 match c.P.underlying T with
 |some (.slice _)=>(Yy g C x).map λa=>(.val (.len a.1) [],[.len a.1])
 |some (.array n _)=>J (.val (.c<|.int .i64 n) [],[])
 |some (.map _ _)=>(Yy g C x).map λa=>(.val (.fe a.1) [],[.fe a.1])
 |_=>U
def QG(g:Gam)(C:ZI):List Operand->Option (List Nat)
 | []=>J []
 |x::l=>match x,Ym g C x with
  |.tmp t,.mem _=>(QG g C l).map (t:: ·)
  |_,_=>U
def jc(g:Gam)(C:ZI)(f:Go.Fn)(first a:List Operand):PK:=
 match f,first,a with
 |.func f,[],[]=>J (.val (.c<|.fn f) [],[])
 |.func f,[],l=>(QG g C l).map λd=>(.dh f d,[])
 |_,_,_=>U
def KT(P:Program)(t:TypeId):Option KC:=
 match P.underlying t with
 |some .bool=>J .b
 |some (.int k)=>J<|.i k
 |some .string=>J .s
 |_=>U
def Ai(P:Program)(t:TypeId):Option V:=
 ((P.info? t).bind (·.zero)).bind λz=>match z with
   |.agg a=>(a.toList.mapM WP).map .agg
   |v=>WP v
def yF(P:Program)(t:TypeId):Bool:=
 match P.underlying t with
 |some (.map _ _)=>xk
 |_=>xw
def jd(c:Ctx)(T:TypeId):PK:=if yF c.P T then J (.own T<|.c<|.mp 0 [] [],[])else U
def Jw(c:Ctx)(g:Gam)(C:ZI)(T:TypeId)(x k:Operand)(ok:Bool):PK:=
 match c.P.underlying T with
 |some (.map h d)=>(KT c.P h).bind λf=>(Ai c.P d).bind λz=>(Yy g C x).bind λa=>(Yy g C k).map λb=>
   let e:=E.lk f a.1 b.1 z ok
   (.val e a.2,[e])
 |_=>U
def Bg(P:Program)(T:TypeId):Bool:=
 match P.underlying T with
 |some (.map _ a)=>XB P a
 |_=>xw
def ja(c:Ctx)(g:Gam)(C:ZI)(T:TypeId)(x k:Operand)(ok:Bool):PK:=
 (Jw c g C T x k ok).bind λr=>match r.1 with
 |.val e a=>let y:=XG (!ok&&Bg c.P T) (e,a);J (.val y.1 y.2,[y.1])
 |_=>U
def Lz(g:Gam)(C:ZI)(mx:Bool)(x y:Operand):PK:=
 (Yy g C x).bind λa=>(Yy g C y).map λb=>let e:=if mx then E.mx a.1 b.1 else .mn a.1 b.1;(.val e [],[e])
def TR(fl:Bool)(b:E×List Nat):E×List Nat:=if b.2.isEmpty then b else if fl then(.kj b.1,[])else b
def qQ(c:Ctx)(g:Gam)(C:ZI)(a:Option Nat)(T h:TypeId)(x y:Operand):PK:=
 match Vb c.P T with
 |.sl f=>if T=h/\VN c.P f=xk then
   match Ym g C x with
   | .nil=>(Yy g C y).bind λb=>
     let y:=TR (XB c.P f) b
     if(match a with|some d=>c.own d|none=>xw)&& !y.2.isEmpty then U else T4 c a f (.ct (.c<|.sl []) y.1<|c.P.cellsOf f) y.2
   |_=>U
  else U
 |_=>U
def pk(c:Ctx)(g:Gam)(C:ZI)(o:Oper):PK:=
 match o.op with
 |.move x=>je g C x
 |.nilCheck x=>jf g C x
 |.assign x=>qR c g C o.type x
 |.alloc T=>qP c T
 |.box T x=>qT c g C T x
 |.binOp op T x y _=>qS c g C op T x y
 |.unOp op _ x=>Eg g C op x
 |.convert j h x=>Ed c g C j h x
 |.extract x i=>Ee c g C o.type x i
 |.load T a=>qZ c g C T a
 |.fieldAddr T a f=>qV c g C T a f
 |.indexAddr T x i=>qY c g C T x i
 |.field T x f=>qW c g C T x f
 |.index T x i=>qX c g C T x i
 |.slice T x p l U=>ji c g C T x p l
 |.build T parts=>Ec c g C T parts.toList
 |.buildSlice T n parts=>qU c g C o.dst T n parts.toList
 |.makeSlice T n m=>jb c g C o.dst T n m
 |.makeFunc f first d=>jc g C f first.toList d.toList
 |.makeMap T U=>jd c T
 |.lookup T x k ok=>ja c g C T x k ok
 | .call {callee:=.builtin .len,args,argTypes}=>match args.toList,argTypes.toList with
   | [x],[T]=>Ef c g C T x
   |_,_=>U
 | .call {callee:=.builtin .min,args, .. }=>match args.toList with
   | [x,y]=>Lz g C xw x y
   |_=>U
 | .call {callee:=.builtin .max,args, .. }=>match args.toList with
   | [x,y]=>Lz g C xk x y
   |_=>U
 | .call {callee:=.builtin .append,args,argTypes}=>match args.toList,argTypes.toList with
   | [x,y],[T,q]=>qQ c g C o.dst T q x y
   |_,_=>U
 |_=>U
inductive FN where
 |id (f:FuncId)
 |e (x:E)
 deriving Inhabited
def FN.es:FN->List E
 |.id _=>[]
 |.e x=>[x]
inductive EF where
 |lt (i:Nat) (C:ZI) (e:E)
 |call (i:Nat) (C:ZI) (f:FN) (fr fl:Bool) (args:List E)
 |fi (i:Nat) (C:ZI) (f:FN) (ks:List OT) (args:List E)
 deriving Inhabited
inductive OV where
 |v (e:E)
 |m (l:List E)
 |no
 deriving Inhabited
structure Reg where
 efs:List EF
 chks:List<|ZI×E
 outs:List<|Nat×OV
 deriving Inhabited
structure OS where
 d:Gam
 ps:List Nat
 rb:List Nat
 fz:List Nat
 efs:List EF
 chks:List<|ZI×E
 deriving Inhabited
def BI:CK->CK
 |.own _=>.fz
 |k=>k
def SB:TK->TK
 |.own _ e=>.val e []
 |.kf a=>if Wd a then .no else .val (.ag (a.map (·.2))) []
 |.mem a=>.mem (a.map λc=>(BI c.1,c.2))
 |k=>k
def RM(fz:List Nat):TK->Bool
 |.pe q _ _ _ _=>fz.contains q
 |_=>xw
def U5(p:Nat):TK->Bool
 |.val _ a=>a.contains p
 |.im q=>p==q
 |.ge q _=>p==q
 |.pc _ _ a=>a.contains p
 |.pe q _ _ _ _=>p==q
 |.ni _ a=>a.contains p
 |_=>xw
def leads(p:Nat):TK->Bool
 |.pa q _ _ _ _=>p==q
 |.pm q _=>p==q
 |.dh _ a=>a.contains p
 |_=>xw
def V0(ps rb fz:List Nat)(k:TK):Bool:= !(ps.any λp=>U5 p k)&& !(rb.any λp=>leads p k)&& !RM fz k
def XX(ps rb fz:List Nat)(g:Gam):Gam:=g.filterMap λx=>if V0 ps rb fz x.2.2 then U else J (x.1,[],.no)
def VB(fz:List Nat)(g:Gam):Gam:=fz.map λp=>(p,(g.at p).1,SB (g.at p).2)
def frz(fz:List Nat)(g:Gam):Gam:=XX [] [] fz g++VB fz g++g
def Y0(g:Gam):List Nat:=g.map (·.1)
structure MS where
 d:Gam
 ps:List Nat
 rb:List Nat
 fz:List Nat
 es:List E
 deriving Inhabited
def TY(g:Gam)(fl:Bool)(x:Operand):Option<|E×List Nat:=(Yy g [] x).map λa=>XG fl a
def Qg(cs:List<|CK×E)(o:Nat)(new:List<|CK×E):List<|CK×E:=cs.take o++new++cs.drop (o+I new)
def U2(g:Gam)(p o:Nat)(new:List<|CK×E):Option TK:=
 (memOf g p).bind λa=>if o+I new<=(I a) then J (.mem<|Qg a o new)else U
def BP(c:Ctx)(g:Gam)(d:Nat):TK->Option (Nat×TypeId×E)
 |.im p=>if c.tr.contains d&&p !=d then(ownOf g p).map λy=>(p,y.1,y.2)else U
 |_=>U
def L2(c:Ctx)(g:Gam)(ty:TypeId)(d:Nat)(x:Operand):Option MS:=
 match x,Ym g [] x with
 |.tmp t,.own ty e=>if t=d\/(g.at t).1≠[]then U else J {d:=[(d,[],.own ty e),(t,[],.no)],ps:=[d,t],rb:=[d,t],fz:=[],es:=[]}
 |.tmp t,.mem f=>if t=d\/(g.at t).1≠[]then U else J {d:=[(d,[],.mem f),(t,[],.no)],ps:=[d,t],rb:=[d,t],fz:=[],es:=[]}
 | .tmp _,.pm p 0=>if c.tr.contains d&&p !=d then(memOf g p).bind λf=>if Wd f then U else
   J {d:=[(d,[],.val (.pt U (f.map (·.2))) []),(p,[],.no)],ps:=[d,p],rb:=[d,p],fz:=[],es:=[.pt U (f.map (·.2))]}else U
 |_,.nil=>J {d:=[(d,[],.nil)],ps:=[d],rb:=[d],fz:=[],es:=[]}
 |_,k=>match BP c g d k with
  |some (p,ty,e)=>J {d:=[(d,[],.own ty e),(p,[],.no)],ps:=[d,p],rb:=[d,p],fz:=[],es:=[]}
  |none=>(TY g (XB c.P ty) x).map λa=> {d:=[(d,[],.val a.1 [])],ps:=[d],rb:=[d],fz:=a.2,es:=[a.1]}
def L5(c:Ctx)(g:Gam)(T:TypeId)(p o:Nat)(x:Operand):Option MS:=
 let n:=c.P.cellsOf T
 if Y9 c.P T then
  match x,Ym g [] x with
  |.tmp t,.kf f=>if I f=n/\t≠p/\(g.at t).1=[]then(U2 g p o f).map λk=> {d:=[(p,[],k),(t,[],.no)],ps:=[p,t],rb:=[t],fz:=[],es:=[]}else U
  |_,_=>(TY g (XB c.P T) x).bind λa=>let e:=WL xk n a.1;(U2 (frz a.2 g) p o<|(List.range n).map λj=>(CK.fz,E.ac e j)).map λk=> {d:=[(p,[],k)],ps:=[p],rb:=[],fz:=a.2,es:=[e]}
 else match x,Ym g [] x with
  |.tmp t,.own h e=>if t≠p/\(g.at t).1=[]then(U2 g p o [(.own h,e)]).map λk=> {d:=[(p,[],k),(t,[],.no)],ps:=[p,t],rb:=[t],fz:=[],es:=[]}else U
  |_,.nil=>(U2 g p o [(.nil,.c<|.sl [])]).map λk=> {d:=[(p,[],k)],ps:=[p],rb:=[],fz:=[],es:=[]}
  |_,_=>(TY g (XB c.P T) x).bind λa=>let e:=Li a.1;(U2 (frz a.2 g) p o [(.fz,e)]).map λk=> {d:=[(p,[],k)],ps:=[p],rb:=[],fz:=a.2,es:=[e]}
def qh(c:Ctx)(g:Gam)(T:TypeId)(p:Nat)(i:Option Nat)(j:E)(o k:Nat)(x:Operand):Option MS:=
 (TY g (XB c.P T) x).bind λa=>let e:=WL (Y9 c.P T) (c.P.cellsOf T) a.1;let g:=frz a.2 g
  if a.2.contains p then U else
  match i with
  |none=>(ownOf g p).bind λx=>let f:=E.gl x.2 j o e;if c.P.cellsOf x.1=k then J {d:=[(p,[],.own x.1 f)],ps:=[p],rb:=[],fz:=a.2,es:=[f]}else U
  |some q=>(memOf g p).bind λl=>match l[q]? with
   |some (.own h,n)=>let f:=E.gl n j o e;if c.P.cellsOf h=k then(U2 g p q [(.own h,f)]).map λk=> {d:=[(p,[],k)],ps:=[p],rb:=[],fz:=a.2,es:=[f]}else U
   |_=>U
def qg(c:Ctx)(g:Gam)(T:TypeId)(p o:Nat)(j:E)(n k:Nat)(x:Operand):Option MS:=
 (TY g (XB c.P T) x).bind λf=>let a:=(WL (Y9 c.P T) (c.P.cellsOf T) f.1,f.2);if !a.2.isEmpty||c.P.cellsOf T≠k then U else
  (memOf g p).bind λl=>
   let part:=(l.drop o).take<|n*k
   if I part=n*k/\part.all (λx=>x.1==.fz)then
    let h:=E.dk (if Us (c.ix p) o part then .mm (c.ix p) o (n*k)else .ag (part.map (·.2))) j n k a.1
    (U2 g p o<|(List.range<|n*k).map λi=>(CK.fz,E.ac h i)).map λk=> {d:=[(p,[],k)],ps:=[p],rb:=[],fz:=[],es:=[h]}
   else U
def qd(c:Ctx)(g:Gam)(d:Nat)(T:TypeId)(parts:List<|Nat×Operand):Option MS:=
 (Lw c.P T).bind λf=>(zeroCells c.P T).bind λh=>(Kq g [] h parts f).bind λb=>
  let a:=b.2.2
  if a.any (λt=>b.2.1.contains t||t==d|| !(g.at t).1.isEmpty)|| !Tn a then U else
  J {d:=(d,[],.kf b.1)::a.map λt=>(t,[],.no),ps:=d::a,rb:=d::a,fz:=b.2.1,es:=[.ag (b.1.map (·.2))]}
def Cx(c:Ctx)(g:Gam)(T:TypeId)(a x:Operand):Option MS:=
 if !YN c.P T|| !(Y9 c.P T||c.P.cellsOf T==1)then U else
 match Ym g [] a with
 |.mem _=>L5 c g T (S2 a) 0 x
 |.pm p o=>L5 c g T p o x
 |.pe p i j o k=>qh c g T p i j o k x
 |.pa p o j n k=>qg c g T p o j n k x
 |_=>U
def qb(c:Ctx)(j:Gam)(d:Nat)(T o:TypeId)(x y:Operand):Option MS:=
 match Vb c.P T with
 |.sl f=>if T=o/\VN c.P f=xk then
   (Yy j [] y).bind λl=>
    let b:=TR (XB c.P f) l;let g:=frz b.2 j
    match x,Ym g [] x with
    |_,.nil=>let a:=E.ct (.c<|.sl []) b.1<|c.P.cellsOf f;J {d:=[(d,[],.own f a)],ps:=[d],rb:=[d],fz:=b.2,es:=[a]}
    |.tmp t,.own h e=>if h=f/\t≠d/\(g.at t).1=[]then let a:=E.ct e b.1<|c.P.cellsOf f;J {d:=[(d,[],.own h a),(t,[],.no)],ps:=[d,t],rb:=[d,t],fz:=b.2,es:=[a]}else U
    |_,.im p=>(ownOf g p).bind λx=>if x.1=f/\p≠d then let a:=E.ct x.2 b.1<|c.P.cellsOf f;J {d:=[(d,[],.own x.1 a),(p,[],.no)],ps:=[d,p],rb:=[d,p],fz:=b.2,es:=[a]}else U
    |_,.ge p i=>(memOf g p).bind λn=>match n[i]? with
     |some (.own h,e)=>if h=f/\p≠d then let a:=E.ct e b.1<|c.P.cellsOf f;(U2 g p i [(.gu,.c<|.sl [])]).map λk=> {d:=[(d,[],.own h a),(p,[],k)],ps:=[d,p],rb:=[d],fz:=b.2,es:=[a]}else U
     |_=>U
    |_,_=>U
  else U
 |_=>U
def qc(c:Ctx)(g:Gam)(d:Nat)(T:TypeId)(x:Operand):Option MS:=
 match x,Ym g [] x with
 |.tmp t,.own f e=>if t≠d/\(g.at t).1=[]then J {d:=[(d,[],.mem [(.own f,e)]),(t,[],.no)],ps:=[d,t],rb:=[d,t],fz:=[],es:=[]}else U
 |.tmp t,.kf a=>if t≠d/\(g.at t).1=[]then J {d:=[(d,[],.mem a),(t,[],.no)],ps:=[d,t],rb:=[d,t],fz:=[],es:=[]}else U
 |_,_=>U
def yY(g:Gam)(x:Operand):Option<|Nat×Option Nat×TypeId×E:=
 match x,Ym g [] x with
 |.tmp t,.own a e=>if(g.at t).1=[]then J (t,U,a,e)else U
 |_,.im p=>(ownOf g p).map λy=>(p,U,y.1,y.2)
 |_,.ge p i=>(memOf g p).bind λd=>match d[i]? with
  |some (.own a,e)=>J (p,J i,a,e)
  |_=>U
 |_,_=>U
def EC(g:Gam)(p:Nat)(i:Option Nat)(ty:TypeId)(e:E):Option TK:=
 match i with
 |none=>J<|.own ty e
 |some i=>U2 g p i [(.own ty,e)]
def L4(g:Gam)(T:TypeId)(m:Operand)(f:E->E):Option MS:=
 (yY g m).bind λx=>if x.2.2.1=T then(EC g x.1 x.2.1 T<|f x.2.2.2).map λk=> {d:=[(x.1,[],k)],ps:=[x.1],rb:=[],fz:=[],es:=[f x.2.2.2]}else U
def qf(c:Ctx)(g:Gam)(T:TypeId)(m k v:Operand):Option MS:=
 match c.P.underlying T with
 |some (.map f _)=>(KT c.P f).bind λd=>(Yy g [] k).bind λb=>(Yy g [] v).bind λa=>if !a.2.isEmpty then U else L4 g T m λe=>.ep d e b.1 a.1
 |_=>U
def qe(c:Ctx)(g:Gam)(T:TypeId)(m:Operand):Option MS:=if yF c.P T then L4 g T m .ga else U
def mk(c:Ctx)(g:Gam)(o:Oper):Option MS:=
 match o.op,o.dst with
 |.assign x,J d=>L2 c g o.type d x
 |.move x,J d=>L2 c g o.type d x
 |.store T a x,U=>Cx c g T a x
 |.build T parts,J d=>qd c g d T parts.toList
 |.box T x,J d=>qc c g d T x
 |.mapUpdate T m k v,U=>qf c g T m k v
 | .call {callee:=.builtin .clear,args,argTypes},U=>match args.toList,argTypes.toList with
   | [x],[T]=>qe c g T x
   |_,_=>U
 | .call {callee:=.builtin .append,args,argTypes},J d=>match args.toList,argTypes.toList with
   | [x,y],[T,f]=>qb c g d T f x y
   |_,_=>U
 |_,_=>U
def Kw(c:Ctx)(ops:Array Oper)(g:Gam)(o:Oper):Option ZI:=
 match o.guard with
 |none=>J []
 |some (j,a)=>((ops[j]?).bind (·.dst)).bind λt=>match g.at t with
  |(C,.val (.s u) [])=>if u=c.ix t then J (C++[(t,a)])else U
  |_=>U
def ZK(c:Ctx)(C:ZI):ZI:=C.map λx=>(c.ix x.1,x.2)
def jh(c:Ctx)(g:Gam)(C:ZI)(x a b:Operand):PK:=
 match x,Ym g C x with
 | .tmp t,.val (.s u) []=>if u≠c.ix t then U else(Yy g (C++[(t,xk)]) a).bind λy=>(Yy g (C++[(t,xw)]) b).map λz=>
   let e:=E.ite (.s<|c.ix t) y.1 z.1
   (.val e<|y.2++z.2,[e])
 |_,_=>U
def zN(g:Gam)(C:ZI)(o:Oper):Option<|FN×List Nat×List Operand×List TypeId:=
 match o.op with
 |.call {callee:=.value<|.func f,args,argTypes}=>J (.id f,[],args.toList,argTypes.toList)
 | .call {callee:=.value<|.tmp t,args,argTypes}=>match Ym g C (.tmp t)with
   |.val e a=>J (.e e,a,args.toList,argTypes.toList)
   |_=>U
 |_=>U
def OM(g:Gam)(t:Nat):Bool:=
 match(g.at t).2 with
 |.own .. |.mem _=>xk
 |_=>xw
def C9:TK->List Nat
 |.im p|.ge p _|.pm p _|.pe p _ _ _ _|.pa p _ _ _ _=>[p]
 |.val _ d|.pc _ _ d|.ni _ d=>d
 |.dh _ a=>a
 |_=>[]
def MO(ops:Array Oper)(o:Oper):List Nat:=
 match o.guard with
 |none=>[]
 |some (j,_)=>((ops[j]?).bind (·.dst)).toList
def Um(ops:Array Oper)(g:Gam)(o:Oper):List Nat:=
 let a:=(o.op.operands.toList.filterMap λx=>match x with|.tmp t=>J t|_=>U)++MO ops o++o.dst.toList;let d:=a++a.flatMap λt=>C9 (g.at t).2
 d++d.flatMap λt=>C9 (g.at t).2
def only(g:Gam)(R:List Nat):Gam:=R.map λt=>(t,g.at t)
def RH(c:Ctx):FN->Bool
 |.id f=>c.fresh f
 |.e _=>xw
def jX(c:Ctx)(g:Gam)(C:ZI)(ty:TypeId)(d:Nat)(f:FN)(sh:List Nat)(args:List Operand)(ts:List TypeId):Option OS:=
 if !(g.at d).2.bu then U else(QB c.P g C args ts).map λaq_=>
  let fl:=(!(aq_.2.1++sh).isEmpty||aq_.2.2)&& !RH c f&&XB c.P ty
  {d:=[(d,C,if aq_.2.2&& !(fl||RH c f)then .ni (.s<|c.ix d) (aq_.2.1++sh)else .val (.s<|c.ix d) (if fl||RH c f then []else aq_.2.1++sh))],ps:=[d],rb:=[d],fz:=[],efs:=[.call (c.ix d) (ZK c C) f (RH c f) fl aq_.1],chks:=[]}
inductive AP where
 |op (x:Operand) (ty:TypeId)
 |cap (p:Nat)
 deriving Inhabited
def Ti(P:Program):CK->CK->Bool
 |.own a,.own b=>a==b
 |.nil,.own a=>decide (0<P.cellsOf a)
 |.nil,.nil|.nil,.fz|.fz,.fz|.own _,.fz=>xk
 |_,.gu=>xk
 |_,_=>xw
def RP(P:Program):List CK->List CK->Bool
 | [],[]=>xk
 |a::l,b::r=>Ti P a b&&RP P l r
 |_,_=>xw
def Q0(P:Program):List CK->List CK->Bool
 | [],[]=>xk
 |a::l,b::r=>(a==b||(match a,b with|.nil,.own d=>decide (0<P.cellsOf d)|.nil,.fz=>xk|_,_=>xw))&&Q0 P l r
 |_,_=>xw
def jS(g:Gam)(C:ZI):AP->Option Nat
 |.cap p=>J p
 | .op (.tmp t) _=>match Ym g C (.tmp t)with
   |.mem _=>J t
   |.pm p 0=>J p
   |_=>U
 |_=>U
def Fg(g:Gam)(C:ZI):AP->Option Nat
 | .op (.tmp t) _=>match Ym g C (.tmp t)with
   |.own _ _=>J t
   |.im p=>J p
   |_=>U
 |_=>U
def S7(c:Ctx)(g:Gam)(C:ZI)(k:OT)(x:AP):Option<|E×Option Nat:=
 match k with
 | .fz=>match x with
   |.op x f=>(Yy g C x).bind λh=>let a:=XG (XB c.P f) h;if a.2.isEmpty then J (a.1,U)else U
   |.cap _=>U
 | .mem l=>(jS g C x).bind λp=>(memOf g p).bind λd=>
   if !Wd d&&Q0 c.P (d.map (·.1)) l then J (.ag (d.map (·.2)),J p)else U
 |.own f=>(Fg g C x).bind λp=>(ownOf g p).bind λy=>if y.1=f then J (y.2,J p)else U
 |_=>U
def Ur(c:Ctx)(g:Gam)(C:ZI):List OT->List AP->Option (List<|E×Option Nat)
 | [],[]=>J []
 |k::d,x::l=>(S7 c g C k x).bind λa=>(Ur c g C d l).map (a:: ·)
 |_,_=>U
def Jg(i q:Nat):OT->TK
 |.mem l=>.mem (l.zipIdx.map λx=>(x.1,.ac (.ext (.s i) q) x.2))
 |.own a=>.own a<|.ext (.s i) q
 |_=>.no
def XE(i:Nat):Nat->List OT->List (E×Option Nat)->Gam
 |q,k::a,(_,J p)::l=>(p,[],Jg i q k)::XE i (q+1) a l
 |q,_::a,(_,U)::l=>XE i q a l
 |_,_,_=>[]
def jY(c:Ctx)(g all:Gam)(C:ZI)(d:Nat)(fn:FN)(ks:List OT)(a:List AP):Option OS:=
 if !(g.at d).2.bu then U else(Ur c g C ks a).bind λaq_=>
  let ps:=aq_.filterMap (·.2)
  if !Tn ps||ps.contains d then U else
  J {d:=(d,C,.val (if ps.isEmpty then .s (c.ix d)else .ext (.s<|c.ix d) 0) [])::XE (c.ix d) 1 ks aq_++XX (d::ps) [d] [] all,ps:=d::ps,rb:=[d],fz:=[],
        efs:=[.fi (c.ix d) (ZK c C) fn ks (aq_.map (·.1))],chks:=[]}
def WX(args:List Operand)(ts:List TypeId):List AP:=
 match args,ts with
 |x::l,t::r=>.op x t::WX l r
 |x::l,[]=>.op x 0::WX l []
 | [],_=>[]
def zM(c:Ctx)(g:Gam)(C:ZI)(o:Oper):Option<|FN×List OT×List AP:=
 match o.op with
 |.call {callee:=.value<|.func f,args,argTypes}=>(c.sig f).map λd=>(.id f,d,WX args.toList argTypes.toList)
 | .call {callee:=.value<|.tmp t,args,argTypes}=>match Ym g C (.tmp t)with
   |.dh f a=>(c.sig f).map λd=>(.id f,d,WX args.toList argTypes.toList++a.map .cap)
   |.val e _=>(c.sig<|1000000+argTypes.toList.headD 0).map λd=>(.e e,d,WX args.toList argTypes.toList)
   |_=>U
 |_=>U
def IY(g:Gam)(o:Oper):Bool:=match o.dst with|some d=>OM g d|none=>xk
def IX(g:Gam)(o:Oper):Bool:=match o.dst with|some d=> !(g.at d).2.bu|none=>xk
def Bd(o:Oper)(ps:List Nat):Bool:=match o.dst with|some d=>ps.contains d|none=>xk
def Bc(c:Ctx)(o:Oper):Bool:=match o.dst with|some d=> !decide (d<c.n)|none=>xw
def Oa(c:Ctx)(g:Gam)(C:ZI)(o:Oper)(x:Operand):Bool:=match o.dst,Ym g C x with
 |some d,.own .. =>c.kp.contains d
 |_,_=>xw
def jg(c:Ctx)(g:Gam)(C:ZI)(o:Oper):PK:=
 match o.op with
 |.pick x a b=>jh c g C x a b
 |.assign _=>if IY g o then U else pk c g C o
 |.move x=>if IX g o then U else if Oa c g C o x then(Yy g C x).map λb=>(.val b.1 b.2,[b.1])else pk c g C o
 |_=>pk c g C o
def A0(c:Ctx)(a:List Nat)(g:Gam)(C:ZI)(d:Nat)(k:TK)(f:List E):Option OS:=
 if a.contains d then
  match k with
  |.val e []=>if !(g.at d).2.bu then U else J {d:=[(d,C,.val (.s<|c.ix d) [])],ps:=[d],rb:=[d],fz:=[],efs:=[.lt (c.ix d) (ZK c C) e],chks:=f.map λe=>(ZK c C,e)}
  |_=>U
 else if U5 d k||leads d k then U else J {d:=[(d,C,k)],ps:=[d],rb:=[d],fz:=[],efs:=[],chks:=f.map λe=>(ZK c C,e)}
def jZ(g all:Gam)(m:MS):OS:= {d:=m.d++XX m.ps m.rb m.fz all++VB m.fz g,ps:=m.ps,rb:=m.rb,fz:=m.fz,efs:=[],chks:=m.es.map λe=>([],e)}
def Rh(c:Ctx)(a:List Nat)(ops:Array Oper)(all:Gam)(o:Oper):Option OS:=
 let g:=only all (Um ops all o)
 if Bc c o then U else
 (Kw c ops g o).bind λC=>
 match zM c g C o,o.dst with
 |some (fn,l,h),J d=>jY c g all C d fn l h
 |some _,U=>U
 |none,_=>
 match zN g C o,o.dst with
 |some (f,n,args,q),J d=>jX c g C o.type d f n args q
 |some _,U=>U
 |none,_=>match jg c g C o,o.dst with
  |some (k,j),J d=>A0 c a g C d k j
  |_,_=>if o.guard.isSome then U else(mk c g o).bind λm=>if m.ps.all (λp=>(Y0 m.d).contains p)&&m.rb.all (λp=>m.ps.contains p)&&Bd o m.ps then J (jZ g all m)else U
def OJ(ops:Array Oper):List Nat:=
 ops.toList.filterMap λo=>match o.op,o.dst with
  |.assign (.tmp t),J _=>J t
  |.store _ _ (.tmp t),_=>J t
  |.call {callee:=.builtin .append,args, .. },_=>match args.toList with|.tmp t::_=>J t|_=>U
  |_,_=>U
def Df(ops:Array Oper):List Nat:=
 let l:=OJ ops
 l++ops.toList.flatMap λo=>match o.op,o.dst with
  |.build _ parts,J d=>if l.contains d then parts.toList.filterMap λx=>match x.2 with|.tmp t=>J t|_=>U else []
  |_,_=>[]
def KW(ops:Array Oper):List Nat:=
 ops.toList.filterMap λo=>match o.guard with
  |some (j,_)=>(ops[j]?).bind (·.dst)
  |none=>U
structure XS where
 os:OS
 R:List Nat
 T:List Nat
 deriving Inhabited
def AC(xs:List XS)(e:Nat):List Nat:=match xs[e]? with|some x=>x.T|none=>[]
def Vg(o:Oper):List Nat:=(o.after.toList.filter λe=>Region.binds .any e).map (·.on)
def Qp(a:Bool)(xs:List XS)(o:Oper):List Nat:=
 if a then(List.range<|I xs).filter λj=>(Vg o).any λe=>e==j||(AC xs e).contains j
 else List.range<|I xs
def JW(c:Ctx)(a:Bool)(f:List Nat)(ops:Array Oper):List Oper->Gam->List XS->Option (Gam×List XS)
 | [],g,h=>J (g,h)
 |o::l,g,h=>if a&& !(Vg o).all (λe=>decide (e<I h))then U else(Rh c f ops g o).bind λos=>JW c a f ops l (os.d++g)<|h++[{os,R:=Um ops g o,T:=Qp a h o}]
def JG(a:OS)(g:Gam):Bool:=g.all λx=>(Y0 a.d).contains x.1||V0 a.ps a.rb a.fz x.2.2
def zF(a b:List Nat):Bool:=a.all λt=> !b.contains t
def Lf(x:XS)(i:Nat)(y:XS)(j:Nat):Bool:=
 j==i||((y.T.contains i||JG x.os y.os.d)&&(x.T.contains j||y.T.contains i||(zF (Y0 y.os.d) (Y0 x.os.d)&&zF (Y0 y.os.d) x.R)))
def qv(a:Gam)(xs:List XS):Bool:=
 xs.zipIdx.all λx=>(x.1.os.ps.all λp=>(Y0 x.1.os.d).contains p)&&(x.1.os.fz.all λp=>(Y0 x.1.os.d).contains p)&&JG x.1.os a&&
  (x.1.T.all λj=>j<x.2)&&xs.zipIdx.all λy=>Lf x.1 x.2 y.1 y.2
abbrev SS:=List<|Nat×OT
def zV(c:Ctx)(t:Nat):OT->TK
 |.fz=>.val (.s<|c.ix t) []
 |.own d=>.own d<|.s<|c.ix t
 |.nil=>.nil
 |.mem l=>.mem (l.zipIdx.map λx=>(x.1,.m (c.ix t) x.2))
 |.dh f a=>.dh f a
def Yw(c:Ctx)(S:SS):Gam:=S.map λx=>(x.1,[],zV c x.1 x.2)
def Ww:TK->Option OT
 |.val _ _=>J .fz
 |.own g _=>J<|.own g
 |.nil=>J .nil
 |.mem d=>J (.mem (d.map (·.1)))
 |.dh f a=>J<|.dh f a
 |_=>U
def V3(keep:List Nat)(g:Gam):List Nat:=keep.flatMap λt=>match g.at t with
 |([],.val _ a)=>a
 |_=>[]
def VE:TK->OV
 |.val e _=>.v e
 |.own _ e=>.v e
 |.nil=>.v<|.c<|.sl []
 |.mem a=>.m (a.map (·.2))
 |_=>.no
def Tt(i:Nat):OV->Bool
 |.v (.s j)=>i==j
 |.m l=>(l.zipIdx.all λx=>match x.1 with|.m j k=>i==j&&k==x.2|_=>xw)
 |_=>xw
def S3(keep:List Nat)(g:Gam):SS:=keep.filterMap λt=>if(g.at t).1.isEmpty then(Ww (g.at t).2).map λk=>(t,k)else U
def SS.at(S:SS)(t:Nat):Option OT:=
 match S with
 | []=>U
 |(u,x)::r=>if u=t then J x else SS.at r t
def UZ(c:Ctx)(S:SS)(g:Gam)(t:Nat):Option<|Nat×OV:=
 let o:=if(g.at t).1.isEmpty then VE (g.at t).2 else .no
 if Tt (c.ix t) o then U
 else match S.at t,(g.at t).2 with
  |some .nil,.nil=>U
  |none,.no=>U
  |_,_=>J (c.ix t,o)
def Db(c:Ctx)(S:SS)(keep:List Nat)(g:Gam):List<|Nat×OV:=keep.filterMap<|UZ c S g
def Bf:EF->List (ZI×E)
 |.lt _ C e=>[(C,e)]
 |.call _ C f _ _ aq_=>(f.es++aq_).map λe=>(C,e)
 |.fi _ C f _ aq_=>(f.es++aq_).map λe=>(C,e)
def Ll:OV->List E
 |.v e=>[e]
 |.m l=>l
 |.no=>[]
def B5(l:List<|ZI×E)(x:ZI×E):Bool:=l.any λy=>Sq y.1 x.1&&E.aw x.2 y.2
def LA:List (ZI×E)->List (ZI×E)->List (ZI×E)
 |_,[]=>[]
 |l,x::r=>let q:=LA l r;if B5 (l++q) x then q else x::q
def UM:EF->Nat
 |.lt i _ _=>i
 |.call i _ _ _ _ _=>i
 |.fi i _ _ _ _=>i
mutual
def E.asks(t:Nat):E->Bool
 |.s u=>t==u
 |.m u _=>t==u
 |.mm u _ _=>t==u
 |.cb _ a b|.gz _ a b|.mn a b|.mx a b=>E.asks t a||E.asks t b
 |.bc a b _|.ai a b _ _ _|.gj a b _|.ct a b _=>E.asks t a||E.asks t b
 |.lk _ a b _ _=>E.asks t a||E.asks t b
 |.ep _ a b d=>E.asks t a||E.asks t b||E.asks t d
 |.fe a|.ga a=>E.asks t a
 |.un _ a|.bo _ a|.len a|.ext a _|.ac a _|.bp a _ _|.mk _ a|.au a|.dy a|.aj a|.sz a _|.fl a|.kj a=>E.asks t a
 |.ig a b d _|.gl a b _ d|.dk a b _ _ d|.ite a b d=>E.asks t a||E.asks t b||E.asks t d
 |.lit l|.ag l|.pt _ l=>E.ca t l
 |.c _=>xw
def E.ca(t:Nat):List E->Bool
 | []=>xw
 |a::l=>E.asks t a||E.ca t l
end
def XA(t:Nat):EF->Bool
 |.lt _ C e=>C.any (λx=>x.1==t)||E.asks t e
 |.call _ C f _ _ aq_=>C.any (λx=>x.1==t)||E.ca t (f.es++aq_)
 |.fi _ C f _ aq_=>C.any (λx=>x.1==t)||E.ca t (f.es++aq_)
def Ld:List EF->Bool
 | []=>xk
 |x::l=> !XA (UM x) x&&l.all (λy=>UM y !=UM x&& !XA (UM y) x)&&Ld l
def Mf(fix:List Nat)(ops:Array Oper):Bool:=ops.toList.all λo=>match o.dst with
 |some d=> !fix.contains d
 |none=>xk
def zR(P:Program)(ix:Nat->Nat)(fresh:FuncId->Bool)(sig:FuncId->Option (List OT))(tr fix:List Nat)(n:Nat)(keep:List Nat)(d:Bool)(ops:Array Oper)(S:SS):Option<|Reg×SS:=
 let f:=Df ops;let c:Ctx:= {P,ix,own:=λt=>f.contains t,fresh,sig,tr,n,kp:=keep};let h:=Yw c S
 (JW c d (KW ops) ops ops.toList h []).bind λr=>
  let j:=V3 keep r.1;let g:=frz j r.1;let outs:=Db c S keep g;let efs:=r.2.flatMap λx=>x.os.efs;let chks:=r.2.flatMap λx=>x.os.chks;let a:=(efs.flatMap Bf)++(outs.flatMap λx=>(Ll x.2).map λe=>(([]:ZI),e))
  if Mf fix ops&&qv h r.2&&Ld efs&&(efs.all λx=>S.all λy=>c.ix y.1 !=UM x)then
   J ({efs,chks:=LA a chks,outs},S3 keep g)
  else U
end Vm
namespace Vm
open Go
inductive Stm where
 |be (r:Reg)
 |skip
 |seq (a b:Stm)
 |cond (c:E) (a b:Stm)
 |block (id:Nat) (a:Stm)
 |loop (keep:List Nat) (a:Stm)
 |exit (id:Nat)
 |ret
 deriving Inhabited
def jt(ops:Array Oper):List Oper->List Nat->List Nat
 | [],_=>[]
 |o::l,seen=>
  (o.op.operands.toList.filterMap λx=>match x with|.tmp t=>if seen.contains t then U else J t|_=>U)++
  jt ops l (match o.dst with|some d=>d::seen|none=>seen)
def De(ops:Array Oper):List Nat:=
 ops.toList.filterMap λo=>match o.dst,o.op with
  |some d,.assign _|some d,.alloc _|some d,.box _ _=>J d
  |_,_=>U
def Cd(ops:Array Oper):List Nat:=
 ops.toList.filterMap λo=>match o.dst,o.op with
  |some d,.call {callee:=.value _, .. }=>J d
  |some d,_=>if(KW ops).contains d then J d else U
  |none,_=>U
def Uc(f:Array Oper->List Nat):Code->List Nat
 |.region _ d _=>f d
 |.seq a b=>Uc f a++Uc f b
 |.cond (.tmp t) a b=>t::Uc f a++Uc f b
 |.cond _ a b=>Uc f a++Uc f b
 |.block _ a|.loop a|.scope a=>Uc f a
 |_=>[]
def QJ:List Nat->List Nat->List Nat
 |a,[]=>a.reverse
 |a,t::l=>QJ (if a.contains t then a else t::a) l
def XQ:List Nat->Nat->Nat
 | [],_=>0
 |u::l,t=>if u=t then 0 else XQ l t+1
def UU(P:Program):OT->OT->Bool
 |.own a,.own b=>a==b
 |.nil,.own a=>decide (0<P.cellsOf a)
 |.nil,.nil|.nil,.fz|.fz,.fz|.own _,.fz=>xk
 |.mem a,.mem b=>RP P a b
 |.dh f a,.dh g b=>f==g&&a==b
 |_,_=>xw
def Tj(P:Program)(S R:SS):Bool:=R.all λx=>match S.at x.1 with|some k=>UU P k x.2|none=>xw
def SH(P:Program)(S:Option SS)(R:Option SS):Bool:=match S,R with|none,_=>xk|some S,J R=>Tj P S R|some _,U=>xw
def ND(P:Program):CK->CK->CK
 |a,b=>if Ti P a b then b else if Ti P b a then a else match a,b with|.gu,_|_,.gu=>.gu|_,_=>.fz
def NE(P:Program):OT->OT->Option OT
 |.mem a,.mem b=>if I a=(I b) then J (.mem<|(a.zip b).map λx=>ND P x.1 x.2)else U
 |.mem _,_|_,.mem _=>U
 |a,b=>if UU P a b then J b else if UU P b a then J a else J .fz
def Cr(P:Program)(S R:SS):SS:=S.filterMap λx=>(R.at x.1).bind λk=>(NE P x.2 k).map λk=>(x.1,k)
def L1(P:Program):Option SS->Option SS->Option SS
 |none,b=>b
 |a,U=>a
 |some a,J b=>J<|Cr P a b
def qa(P:Program):List SS->Option SS
 | []=>U
 |S::l=>L1 P (J S)<|qa P l
structure Flow where
 n:Option SS
 x:List<|Nat×SS
 r:List SS
structure FC where
 P:Program
 ix:Nat->Nat
 fresh:FuncId->Bool
 sig:FuncId->Option (List OT)
 tr:List Nat
 oh:List Nat
 n:Nat
 keep:List Nat
def Mt(S:SS):SS:=S.map λx=>(x.1,match x.2 with|.mem l=>.mem (l.map λk=>match k with|.own _=>.fz|k=>k)|k=>k)
def yB(P:Program)(f:SS->Option (Stm×Flow)):Nat->SS->Option SS
 |0,S=>J S
 |k+1,S=>match f S with
  |none=>yB P f k<|Mt S
  |some x=>match x.2.n with
  |none=>J S
  |some R=>if Tj P R S then J S else yB P f k<|Cr P S R
def comp(c:FC):Code->SS->Option (Stm×Flow)
 |.skip,S|.label _,S=>J (.skip,⟨J S,[],[]⟩)
 |.region _ f d,S=>(zR c.P c.ix c.fresh c.sig c.tr c.oh c.n c.keep d f S).map λx=>(.be x.1,⟨J x.2,[],[]⟩)
 | .seq a b,S=>(comp c a S).bind λx=>match x.2.n with
   |none=>J x
   |some R=>(comp c b R).map λy=>(.seq x.1 y.1,⟨y.2.n,x.2.x++y.2.x,x.2.r++y.2.r⟩)
 | .cond (.tmp t) a b,S=>if S.at t=J .fz then(comp c a S).bind λx=>(comp c b S).bind λy=>
   let M:=L1 c.P x.2.n y.2.n
   if SH c.P x.2.n M&&SH c.P y.2.n M then J (.cond (.s<|c.ix t) x.1 y.1,⟨M,x.2.x++y.2.x,x.2.r++y.2.r⟩)else U else U
 | .block id a,S=>(comp c a S).bind λx=>
   let M:=L1 c.P x.2.n (qa c.P ((x.2.x.filter λy=>y.1==id).map (·.2)))
   if SH c.P x.2.n M&&x.2.x.all (λy=>y.1 !=id||SH c.P (J y.2) M)then
    J (.block id x.1,⟨M,x.2.x.filter λy=>y.1 !=id,x.2.r⟩)else U
 | .loop a,S=>(yB c.P (comp c a) 4 S).bind λH=>(comp c a H).bind λx=>
   if Tj c.P S H&&SH c.P x.2.n (J H)then J (.loop (H.map λy=>c.ix y.1) x.1,⟨U,x.2.x,x.2.r⟩)else U
 |.exit id,S=>J (.exit id,⟨U,[(id,S)],[]⟩)
 |.scope a,S=>comp c a S
 |.ret,S=>J (.ret,⟨U,[],[S]⟩)
 |_,_=>U
inductive RK where
 |v|ag (n:Nat)|aj
 deriving Inhabited
structure Fn where
 n:Nat
 keep:List Nat
 body:Stm
 bj:List<|Nat×RK
 deriving Inhabited
def LH(P:Program)(d:Nat->Nat)(f:Func):List<|Nat×RK:=
 f.results.toList.map λr=>match r with|.tmp t=>(d t,.v)|.cell a t=>(d a,if Y9 P t then .ag (P.cellsOf t)else .aj)
def Q1(P:Program)(S:SS):ResultVar->Bool
 |.tmp t=>match S.at t with|some (.mem _)|some (.dh _ _)|none=>xw|_=>xk
 |.cell t a=>match S.at t with|some (.mem l)=>YN P a&&l.all (λk=>k !=.gu)&&(if Y9 P a then I l==P.cellsOf a else decide (0<I l))|_=>xw
def ST(ks:List OT):SS:=ks.zipIdx.filterMap λx=>match x.1 with
 |.fz=>U
 |k=>J (x.2,k)
def Qf:ResultVar->Nat
 |.tmp t=>t
 |.cell t _=>t
def RY(P:Program)(f:Func)(a:SS)(S:SS):Bool:=f.results.toList.all (Q1 P S)&&Tj P S a
def t5(f:Func)(a:SS):Bool:=f.results.toList.all λr=>(a.at<|Qf r).isNone
def Oz(P:Program)(f:Func)(a:SS):Option SS->Bool
 |some R=>RY P f a R
 |none=>xk
def D4(P:Program)(d:Nat->Nat)(f:Func)(ks:List OT)(a:SS)(fl:Flow):Bool:=
 Oz P f a fl.n&&fl.r.all (RY P f a)&&fl.x.isEmpty&&(List.range<|I ks).all (λt=>d t==t)
def Sy(ks:List OT):List Nat:=(ST ks).map (·.1)
def JZ(f:Func):List Nat:=f.results.toList.filterMap λr=>match r with
 |.tmp t=>J t
 |_=>U
def ZS(P:Program)(fresh:FuncId->Bool)(sig:FuncId->Option (List OT))(ks:List OT)(d:SS)(f:Func):Option Fn:=
 f.body.bind λcode=>
  let keep:=QJ []<|(List.range<|I ks)++Uc (λa=>De a++jt a a.toList []) code;let ix:=XQ<|keep++QJ [] ((Uc Cd code).filter λt=> !keep.contains t);let S:=ks.zipIdx.map λx=>(x.2,x.1)
  (comp {P,ix,fresh,sig,tr:=JZ f,oh:=Sy ks,n:=f.ntmps,keep} code S).bind λx=>
   if D4 P ix f ks d x.2 then
    J {n:=I keep,keep,body:=x.1,bj:=LH P ix f}
   else U
end Vm
namespace Vm
open Go
structure GH where
 F:Nat->Prop
 bl:Nat->Nat->Option Nat
 K:Nat->Prop
structure Ok (B:Nat) (G:Nat->Prop) (w:World) (h:GH):Prop where
 V:B<=xz (xj w)
 cd:∀b,h.F b->b<xz (xj w)
 dl:∀b,h.F b->G b\/B<=b
 gs:∀b,G b->h.F b
 ax:∀t i b,h.bl t i=J b->B<=b/\b<xz (xj w)/\¬h.F b
 inj:∀t i u j b,h.bl t i=J b->h.bl u j=J b->t=u/\i=j
 cw:∀b,h.K b->b<xz (xj w)
 cl:∀t i b,h.bl t i=J b->¬h.K b
 fw:∀b,h.F b->G b\/¬h.K b
def GH.fu(h:GH)(big:Bool)(sh:List Nat)(b:Nat):Prop:=h.F b\/∃p∈sh,∃i,(big=xk\/0<i)/\h.bl p i=J b
def GH.ext(h:GH)(sh:List Nat)(b:Nat):Prop:=h.F b\/∃p∈sh,∃i,h.bl p (i+1)=J b
def GH.bz{h:GH}{sh b}(a:h.F b):h.ext sh b:=.inl a
def GH.it{h:GH}{b}(a:h.ext [] b):h.F b:=by
 obtain a|⟨p,d,_⟩:=a;exact a;grind
def GH.kl{h:GH}{sh r b}(a:h.ext sh b):h.ext (sh++r) b:=by
 obtain a|⟨p,d,x⟩:=a;exact .inl a;exact .inr ⟨p,by simp[d],x⟩
def GH.iu{h:GH}{sh r b}(a:h.ext r b):h.ext (sh++r) b:=by
 obtain a|⟨p,d,x⟩:=a;exact .inl a;exact .inr ⟨p,by simp[d],x⟩
def GJ(P:Program)(B:Nat)(w:World)(h:GH)(o:Option Nat)(ty:TypeId)(x:V)(v:Value):Prop:=
 ∃l a,x=.sl l/\0<P.cellsOf ty/\(∀y∈l,y.ah<|P.cellsOf ty)/\w.ownsRow B ty (P.cellsOf ty) v (I l) a/\v.ownBlock=o/\
  ∀(i:Nat) c,(flat l)[i]?=J c->∃u,a[i]?=J u/\Rd w h.F c u
def GK(B:Nat)(w:World)(h:GH)(o:Option Nat)(x:V)(v:Value):Prop:=
 ∃id f g b a d,x=.mp id f g/\v=.map (J b)/\o=J b/\B<=b/\(id=0\/id=b+1)/\w.heap[b]?=J (.map a d)/\I f=a.size/\I g=a.size/\
  (∀i c,f[i]?=J c->Rd w h.F c (a.getD i default).key)/\∀i c,g[i]?=J c->Rd w h.F c (a.getD i default).val
def OwnV(P:Program)(B:Nat)(w:World)(h:GH)(o:Option Nat)(ty:TypeId)(x:V)(v:Value):Prop:=GJ P B w h o ty x v\/GK B w h o x v
def S9:Option Nat->Nat
 |none=>1
 |some i=>i+1
def RelC(P:Program)(B:Nat)(s:St)(w:World)(h:GH)(o:Option Nat)(k:CK)(e:E)(v:Value):Prop:=
 match k with
 |.fz=>∃x,eval s e=J x/\x.aj=xk/\Rd w h.F x v
 |.own a=>∃x,eval s e=J x/\OwnV P B w h o a x v
 |.nil=>v=.slice U 0 0/\eval s e=J (.sl [])
 |.gu=>v.oneCell'=xk
def RelCs(P:Program)(B:Nat)(s:St)(w:World)(h:GH)(t:Nat)(cs:List<|CK×E)(vs:Array Value):Prop:=
 vs.size=I cs/\∀i c,cs[i]?=J c->RelC P B s w h (h.bl t<|i+1) c.1 c.2 (vs.getD i xy)
def RelK(P:Program)(B:Nat)(s:St)(w:World)(h:GH)(u:Nat->Option Value)(t:Nat)(v:Value):TK->Prop
 |.no=>True
 |.val e g=>∃x,eval s e=J x/\Rd w (h.ext g) x v
 |.own y e=>∃x,eval s e=J x/\OwnV P B w h (h.bl t 1) y x v
 |.nil=>v=.slice U 0 0
 |.mem l=>∃b a T,h.bl t 0=J b/\v=.pointer (J ⟨b,0,U⟩)/\w.heap[b]?=J (.cells a T (0,0))/\RelCs P B s w h t l a
 |.kf l=>∃a,v=.agg a/\RelCs P B s w h t l a
 |.im p=>u p=J v
 |.ge p i=>∃b,h.bl p 0=J b/\w.cell? ⟨b,i,U⟩=J v
 |.pm p o=>∃b,h.bl p 0=J b/\v=.pointer (J ⟨b,o,U⟩)
 | .pc e o g=>∃x b q,∃a:Nat->Value,eval s e=J x/\v=.pointer (J ⟨b,q+o,U⟩)/\h.ext g b/\(∀c∈x.pc,c.aj=xk)/\
   (∀i,i<I x.pc->w.cell? ⟨b,q+i,U⟩=J (a i))/\∀i c,x.pc[i]?=J c->Rd w (h.ext g) c (a i)
 |.pe p i j o k=>∃n q,h.bl p (S9 i)=J n/\(∃r,eval s j=J (.int r (q:Nat)))/\v=.pointer (J ⟨n,q*k+o,U⟩)
 |.pa p o j n k=>∃b q,h.bl p 0=J b/\(∃r,eval s j=J (.int r (q:Nat)))/\q<n/\v=.pointer (J ⟨b,o+q*k,U⟩)
 |.ni e g=>∃x,eval s e=J x/\Rd w (h.fu xk g) x v
 |.dh f d=>∃a,v=.func (.func f) #[] a/\a.size=I d/\∀(i p:Nat),d[i]?=J p->∃b,h.bl p 0=J b/\a[i]?=J (.pointer<|J ⟨b,0,U⟩)
def holds(s:St)(C:ZI):Prop:=∀x∈C,ZJ s x.1=.v (.bool x.2)
def RJ s:holds s []:=λ_ h=>Z5V
def yC{s C D}:holds s (C++D)↔holds s C/\holds s D:=by
 unfold holds;constructor;simp_all;grind
def MY{s c C D}(h:Sq C D=xk)(d:holds s<|ZK c D):holds s<|ZK c C:=by
 intro x a;simp only[ZK,Z6F]at a;obtain⟨y,f,rfl⟩:=a;refine d _ ?_;simp only[Sq]at h;simp[ZK];grind
structure RelG (c:Ctx) (B:Nat) (G:Nat->Prop) (s:St) (a:Act) (w:World) (h:GH) (g:Gam):Prop where
 ok:Ok B G w h
 Y:∀t,holds s (ZK c (g.at t).1)->(g.at t).2.bu=xw->∃v,a.tmps[t]?=J v/\RelK c.P B s w h (λp=>a.tmps[p]?) t v (g.at t).2
 skip:∀t,¬holds s (ZK c (g.at t).1)->a.tmps.getD t xy=xy
theorem Act.an(a:Act)(t:Nat)v(h:a.tmps[t]?=J v):a.eval (.tmp t)=v:=by
 simp_all[Act.eval,Z6g,Z6K]
def Cl{g C t k}(h:look g C t=k)(a:k.bu=xw):(g.at t).2=k/\Sq (g.at t).1 C=xk:=by
 grind [look,TK.bu]
section
variable {c:Ctx}{B:Nat}{G:Nat->Prop}{s:St}{a:Act}{w:World}{h:GH}{g:Gam}{C:ZI}
def RelG.cj(o:RelG c B G s a w h g)(j:holds s<|ZK c C){t k}(n:look g C t=k)(l:k.bu=xw):
  ∃v,a.tmps[t]?=J v/\RelK c.P B s w h (λp=>a.tmps[p]?) t v k/\(g.at t).2=k:=by
 let⟨q,f⟩:=Cl n l;let⟨v,r,d⟩:=o.Y t (MY f j) Z5i;simp_all
theorem Kt{v x}(a:WP v=J x)w G:Rd w G x v:=by
 unfold WP at a;split at a<;>first
  |(simp at a;subst a;first|exact .int _ _|exact .bool _|exact .str _|exact .nil _ _ (Z7T _)|exact .lf|exact .li|exact .lj)
  | (split at a<;>first
    | (rename_i d
       simp at a;subst a;rw[Z78 d.1,Z78 d.2];exact .fn _)
    |simp at a)
  |simp at a
theorem zP{v x}(a:WP v=J x):x.aj=xk:=by
 unfold WP at a;split at a<;>first
  |(simp at a;subst a;rfl)
  |(split at a<;>first|(simp at a;subst a;rfl)|simp at a)
  |simp at a
def OwnV.rd{P o ty x v}(T:OwnV P B w h o ty x v){G'}(n:∀b,h.F b->G' b)(Y:∀b,o=J b->G' b):Rd w G' x v:=by
 obtain⟨l,M,rfl,X,g,j,O,z⟩|⟨id,W,M,b,N,k,rfl,rfl,rfl,_,q,p,r,H,t,K⟩:=T;case inr=>exact .mp id W M b k N q Z5i p r H (λi c d=>(t i c d).mono n) λi c d=>(K i c d).mono n
 let⟨L,Q⟩:=j;obtain⟨rfl,R⟩|⟨b,cap,a,rfl,_,p,y,f,A,C⟩:=Q;have:=Z7p R;subst this;exact .nil _ _ Z0;simp[Value.ownBlock]at O;refine .sl l b 0 cap _ (λi=>a.getD i xy) y f Z5i g (λi d=> ?_) λi c d=> ?_;rw[Z6V,Z6j w b i a ty _ p];have:i<a.size:=by rw[A];exact Z6o d Z5h
 simp_all;let⟨u,D,S⟩:=z i c d;have G:a.getD i xy=u:=by
  rw[<-C,Z6O]at D;split at D;simp_all;simp at D
 rw[G];exact S.mono n
def RelC.cell{P o k e v}(a:RelC P B s w h o k e v):v.oneCell'=xk:=by
 cases k with
 |fz=>let⟨x,_,d,f⟩:=a;rw[f.ir,d]
 |own j=>
  obtain⟨x,_,⟨l,n,_,_,_,⟨_,g⟩,_⟩|⟨_,_,_,_,_,_,_,rfl,_⟩⟩:=a;obtain⟨rfl,_⟩|⟨_,_,_,rfl,_⟩:=g<;>rfl;rfl
 |nil=>obtain⟨rfl,_⟩:=a;rfl
 |gu=>exact a
def RelC.rd{P o k e v}(d:RelC P B s w h o k e v)(q:k≠.gu){G'}(f:∀b,h.F b->G' b)(r:∀j,k=.own j->∀b,o=J b->G' b):
  ∃x,eval s e=J x/\x.aj=xk/\Rd w G' x v:=by
 cases k with
 |fz=>let⟨x,a,n,p⟩:=d;exact⟨x,a,n,p.mono f⟩
 |own j=>
  let⟨x,a,g⟩:=d;refine⟨x,a,?_,g.rd f Z5i⟩;obtain⟨l,t,rfl,_⟩|⟨_,_,_,_,_,_,rfl,_⟩:=g<;>rfl
 |nil=>obtain⟨rfl,a⟩:=d;exact⟨_,a,rfl,.nil _ _ Z0⟩
 |gu=>simp_all
def Ud{l xs}(h:YB s l=J xs):I xs=I l/\∀(i:Nat) e,l[i]?=J e->∃x,xs[i]?=J x/\eval s e=J x:=by
 induction l generalizing xs with
 |nil=>simp[YB,Z6c]at h;subst h;exact⟨rfl,Z1⟩
 |cons e l a=>
  simp[YB,Z6a,Z6f]at h;grind
def Bj{l}(h:∀e∈l,∃x,eval s e=J x):∃a,YB s l=J a:=by
 induction l with
 |nil=>exact⟨[],rfl⟩
 |cons e l f=>
  let⟨x,d⟩:=h e Z1;grind [YB]
def SA{l}(h:∀x∈l,x.aj=xk):flat l=l:=by
 induction l with
 |nil=>rfl
 |cons x l f=>
  rw[TV,f λy d=>h y (by simp[d])];have a:=h x Z1;cases x<;>first|rfl|simp[V.aj]at a
def RelCs.rd{P t cs vs}(H:RelCs P B s w h t cs vs)(Q:Wd cs=xw){G'}(C:∀b,h.F b->G' b)(S:U9 cs=xk->∀i b,h.bl t (i+1)=J b->G' b):
  ∃x,eval s (.ag (cs.map (·.2)))=J (.agg x)/\I x=I cs/\Rd w G' (.agg x) (.agg vs):=by
 let⟨K,D⟩:=H;have key:∀i k e,cs[i]?=J (k,e)->∃x,eval s e=J x/\x.aj=xk/\Rd w G' x (vs.getD i xy):=by
  intro i k e a;refine(D i _ a).rd ?_ C ?_;grind [Wd,List.any_eq_true];grind [U9,List.any_eq_true]
 let⟨n,p⟩:=Bj (s:=s) (l:=cs.map (·.2)) (by
  intro e q;simp only[Z6F]at q;obtain⟨⟨k,O⟩,R,rfl⟩:=q;grind [List.getElem?_of_mem])
 let⟨G,L⟩:=Ud p;have o:I n=I cs:=by simpa using G
 have d:∀i x,n[i]?=J x->x.aj=xk/\Rd w G' x (vs.getD i xy):=by
  intro i x a;have f:i<I cs:=by
   have:=(Z6d.1 a).1;omega
  let⟨y,N,u,A⟩:=key i cs[i].1 cs[i].2 (by simp[f]);let⟨z,r,j⟩:=L i (cs[i].2) (by simp[f]);rw[a]at r;cases r;rw[N]at j;cases j;exact⟨u,A⟩
 have g:∀x∈n,x.aj=xk:=λx M=>by
  grind [List.getElem?_of_mem]
 refine⟨n,?_,o,.agg n vs Z0 g λi x a=>(d i x a).2⟩;simp_all[eval,Tb,SA]
def J7{P t b vs T cs}(q:h.bl t 0=J b)(u:w.heap[b]?=J (.cells vs T (0,0)))(j:RelCs P B s w h t cs vs)(r:Wd cs=xw)
  {z} (a:eval s (.pt U (cs.map (·.2)))=J z) {G'} (p:∀b,h.F b->G' b) (C:∀i b,h.bl t i=J b->G' b):Rd w G' z<|.pointer<|J ⟨b,0,U⟩:=by
 simp[eval,Z6a]at a;let⟨y,l,a⟩:=a;simp only[JC]at a;split at a;rename_i f;simp at a;subst a;have d:=λx g=>Z6y.1 f x g;let⟨x,g,G,k⟩:=j.rd r (G':=G') p Z5h;simp[eval,l,Tb,SA d,V.agg.injEq]at g;subst g;cases k with
 |agg _ _ A n o=>
  refine .ptr y b 0 (λi=>vs.getD i xy) Z5h n (λi D=> ?_) o;rw[Z6V,Z6j w b i vs T _ u];simp_all
 cases a
def RelG.fk(k:RelG c B G s a w h g){p ty e}(j:ownOf g p=J (ty,e)):
  ∃v,a.tmps[p]?=J v/\∃x,eval s e=J x/\OwnV c.P B w h (h.bl p 1) ty x v:=by
 unfold Vm.ownOf at j;split at j;rename_i n o f;obtain⟨rfl,rfl⟩:=j;let⟨v,l,d⟩:=k.Y p (by rw[f];exact RJ s) (by rw[f];rfl);rw[f]at d;exact⟨v,l,d⟩;grind
def RelG.dc(n:RelG c B G s a w h g){p cs}(k:memOf g p=J cs):
  ∃b j T,h.bl p 0=J b/\a.tmps[p]?=J (.pointer<|J ⟨b,0,U⟩)/\w.heap[b]?=J (.cells j T (0,0))/\RelCs c.P B s w h p cs j:=by
 unfold Vm.memOf at k;split at k;rename_i l f;let⟨v,t,d⟩:=n.Y p (by rw[f];exact RJ s) (by rw[f];rfl);rw[f]at d;obtain⟨b,j,T,o,rfl,q,r⟩:=d;simp_all;grind
def Ei:TK->Nat×Nat
 |.im p=>(p,1)
 |.ge p i=>(p,i+1)
 |_=>(0,0)
def RelG.ib(y:RelG c B G s a w h g){k ty e}(f:ownAt g k=J (ty,e)){t v}(r:RelK c.P B s w h (λp=>a.tmps[p]?) t v k):
  ∃x,eval s e=J x/\OwnV c.P B w h (h.bl (Ei k).1 (Ei k).2) ty x v:=by
 cases k with
 |im p=>
  let⟨u,K,x,L,F⟩:=y.fk f;have:u=v:=by
   have q:a.tmps[p]?=J v:=r;rw[K]at q;cases q;rfl
  subst this;exact⟨x,L,F⟩
 |ge p i=>
  simp[Vm.ownAt,Z6a]at f;let⟨O,D,f⟩:=f;let⟨b,z,T,A,_,C,H,o⟩:=y.dc D;let⟨N,j,d⟩:=r;rw[A]at j;cases j;rw[Z6j w b i z T _ C]at d;have l:z.getD i xy=v:=by simp[d]
  split at f;rename_i M Q n;simp at f;obtain⟨rfl,rfl⟩:=f;have:=o i _ n;rw[l]at this;exact this;grind
 |_=>simp[Vm.ownAt]at f
def RelG.dp(n:RelG c B G s a w h g){p i ty e}(f:Vm.ownAt g (SW p i)=J (ty,e)):
  ∃v x,RelK c.P B s w h (λp=>a.tmps[p]?) 0 v (SW p i)/\eval s e=J x/\OwnV c.P B w h (h.bl p<|S9 i) ty x v:=by
 obtain _|i:=i;let⟨u,D,x,q,k⟩:=n.fk f;exact⟨u,x,D,q,k⟩;have l:=f;simp[SW,Vm.ownAt,Z6a]at f;let⟨H,C,f⟩:=f;let⟨b,r,T,t,_,z,o,y⟩:=n.dc C;split at f;rename_i F K j;have A:i<r.size:=by rw[o];exact(Z6d.1 j).1
 have d:RelK c.P B s w h (λp=>a.tmps[p]?) 0 (r.getD i xy)<|SW p<|J i:=
  ⟨b,t,by rw[Z6j w b i r T _ z];simp_all⟩
 let⟨x,q,k⟩:=n.ib l d;exact⟨_,x,d,q,k⟩;grind
def AR(L:RelG c B G s a w h g){k t v}(R:a.tmps[t]?=J v)(r:RelK c.P B s w h (λp=>a.tmps[p]?) t v k){e sh}(d:XV g k t=J (e,sh)):
  ∃x,eval s e=J x/\Rd w (h.ext sh) x v:=by
 cases k with
 |val z A=>simp[XV,Z6t]at d;obtain⟨rfl,rfl⟩:=d;exact r
 |own M z=>
  simp[XV,Z6t]at d;obtain⟨rfl,rfl⟩:=d;let⟨x,y,q⟩:=r;exact⟨x,y,q.rd (λb l=>GH.bz l) λb l=>.inr ⟨t,Z1,0,l⟩⟩
 |nil=>
  simp[XV,Z6t]at d;obtain⟨rfl,rfl⟩:=d;have:=r;subst this;exact⟨.sl [],rfl,.nil _ _ Z0⟩
 |kf H=>
  simp only[XV]at d;split at d;grind;rename_i Q;obtain⟨S,rfl,C⟩:=r;let⟨x,y,_,N⟩:=C.rd (G':=h.ext<|if U9 H=xk then [t]else []) Z5h (λb l=>GH.bz l) (λq i b l=>by rw[Z6k q];exact .inr ⟨t,Z1,i,l⟩);simp_all
 |im p=>
  simp only[XV,Z6f]at d;let⟨⟨M,z⟩,D,d⟩:=d;simp at d;obtain⟨rfl,rfl⟩:=d;let⟨u,O,x,y,q⟩:=L.fk D;have:u=v:=by
   have K:a.tmps[p]?=J v:=r;rw[O]at K;cases K;rfl
  subst this;exact⟨x,y,q.rd (λb l=>GH.bz l) λb l=>.inr ⟨p,Z1,0,l⟩⟩
 |ge p i=>
  simp only[XV,Z6f]at d;let⟨⟨M,z⟩,D,d⟩:=d;simp at d;obtain⟨rfl,rfl⟩:=d;let⟨x,y,q⟩:=L.ib D (show RelK c.P B s w h (λp=>a.tmps[p]?) t v _ from r);exact⟨x,y,q.rd (λb l=>GH.bz l) λb l=>.inr ⟨p,Z1,i,l⟩⟩
 |no=>simp[XV]at d
 |mem H=>simp[XV]at d
 |pm p o=>simp[XV]at d
 |pc z o A=>simp[XV]at d
 |pe p i j o k=>simp[XV]at d
 |pa p o j n k=>simp[XV]at d
 |dh f F=>simp[XV]at d
 |ni z A=>simp[XV]at d
end
end Vm
namespace Vm
open Go
open Go.RowKit (Below)
def TK.is:TK->Bool
 |.own .. |.mem _|.kf _=>xk
 |_=>xw
structure Step (B:Nat) (ps rb fz:List Nat) (w w':World) (h h':GH):Prop where
 below:Below B w w'
 same:∀b,b<xz (xj w)->(∀p∈ps,∀i,h.bl p i≠J b)->w'.heap[b]?=w.heap[b]?
 F:∀b,h.F b->h'.F b
 bl:∀t,t∉ps->t∉fz->h'.bl t=h.bl t
 my:∀t,t∉rb->h'.bl t 0=h.bl t 0
 oi:∀t i b,t∉ps->t∈fz->h.bl t (i+1)=J b->h'.F b
 K:h'.K=h.K
section
variable {P:Program}{B:Nat}{G:Nat->Prop}{s:St}{w w':World}{h h':GH}{ps rb fz:List Nat}
def Step.iq(g:Step B ps rb fz w w' h h')(a:Ok B G w h){b}(d:h.F b):=
 g.same b (a.cd b d) λp _ i f=>(a.ax p i b f).2.2 d
def Step.cn(g:Step B ps rb fz w w' h h')(a:Ok B G w h){t i b}(k:t∉ps)(d:h.bl t i=J b):=
 g.same b (a.ax t i b d).2.1 λp l j f=>k (by have:=(a.inj t i p j b d f).1;simp_all)
def Step.ik(f:Step B ps rb fz w w' h h')(a:Ok B G w h){sh}(j:∀p∈ps,p∉sh):Same (h.ext sh) w w':=by
 intro b d;obtain d|⟨p,k,i,g⟩:=d;exact f.iq a d;exact f.cn a Z5h g
def Step.ij(g:Step B ps rb fz w w' h h'){sh}(j:∀p∈ps,p∉sh):∀b,h.ext sh b->h'.ext sh b:=by
 intro b f;obtain f|⟨p,l,i,k⟩:=f;exact .inl<|g.F b f;have a:=λa=>j p a l;by_cases d:p∈fz;exact .inl<|g.oi p i b a d k;exact .inr ⟨p,l,i,by rw[g.bl p a d];exact k⟩
def Step.mw(f:Step B ps rb fz w w' h h')(a:Ok B G w h){big sh}(j:∀p∈ps,p∉sh):Same (h.fu big sh) w w':=by
 intro b d;obtain d|⟨p,k,i,_,g⟩:=d;exact f.iq a d;exact f.cn a Z5h g
def Step.dv(g:Step B ps rb fz w w' h h')(o:∀t∈rb,t∈ps){big sh}(n:∀p∈ps,p∉sh):∀b,h.fu big sh b->h'.fu big sh b:=by
 intro b j;obtain j|⟨p,l,i,f,k⟩:=j;exact .inl<|g.F b j;have a:=λa=>n p a l;by_cases d:p∈fz;cases i with
 |zero=>exact .inr ⟨p,l,0,f,by rw[g.my p λq=>a Z5i];exact k⟩
 |succ i=>exact .inl<|g.oi p i b a d k
 exact .inr ⟨p,l,i,f,by rw[g.bl p a d];exact k⟩
def ON{e k v n xs}(d:w.ownsRow B e k v n xs)(l:∀b,v.ownBlock=J b->w'.heap[b]?=w.heap[b]?):w'.ownsRow B e k v n xs:=by
 refine⟨d.1,?_⟩;obtain o|⟨g,cap,a,rfl,f,h,j⟩:=d.2;grind;exact .inr ⟨g,cap,a,rfl,f,by rw[l g rfl];exact h,j⟩
def OwnV.keep{o ty x v}(G:OwnV P B w h o ty x v)(q:Same h.F w w')(a:∀b,h.F b->h'.F b)(A:∀b,o=J b->w'.heap[b]?=w.heap[b]?):OwnV P B w' h' o ty x v:=by
 obtain⟨l,t,rfl,g,j,k,n,p⟩|⟨id,H,t,b,y,f,rfl,rfl,rfl,g,r,j,k,n,p,z⟩:=G;case inr=>exact .inr ⟨id,H,t,b,y,f,rfl,rfl,rfl,g,r,by rw[A b rfl];exact j,k,n,λi c d=>(p i c d).keep q a,λi c d=>(z i c d).keep q a⟩
 refine .inl ⟨l,t,rfl,g,j,ON k Z5i,n,λi c d=> ?_⟩;let⟨u,D,C⟩:=p i c d;exact⟨u,D,C.keep q a⟩
def RelC.keep{o k e v}(d:RelC P B s w h o k e v)(j:Same h.F w w')(a:∀b,h.F b->h'.F b)(n:∀b,o=J b->w'.heap[b]?=w.heap[b]?):RelC P B s w' h' o k e v:=by
 cases k with
 |fz=>let⟨x,f,g,l⟩:=d;exact⟨x,f,g,l.keep j a⟩
 |own p=>let⟨x,f,g⟩:=d;exact⟨x,f,g.keep j a n⟩
 |nil=>exact d
 |gu=>exact d
def RelCs.keep{t cs vs}(f:RelCs P B s w h t cs vs)(j:Same h.F w w')(a:∀b,h.F b->h'.F b)(d:∀i,h'.bl t (i+1)=h.bl t (i+1))(n:∀i b,h.bl t (i+1)=J b->w'.heap[b]?=w.heap[b]?):RelCs P B s w' h' t cs vs:=
 ⟨f.1,λi g l=>by rw[d];exact(f.2 i g l).keep j a λb k=>n _ b k⟩
def IK{k}(a:V0 ps rb fz k=xk):(∀p∈ps,U5 p k=xw)/\(∀p∈rb,leads p k=xw)/\RM fz k=xw:=by
 simp_all[V0,Z6l,Z8O,Z8S]
def RelK.keep{tm X t v k}(A:RelK P B s w h tm t v k)(g:Step B ps rb fz w w' h h')(r:Ok B G w h)(a1:∀t∈rb,t∈ps)
  (L:t∉ps) (C:t∈fz->k.is=xw) (O:V0 ps rb fz k=xk) (a2:∀p,p∉ps->X p=tm p):RelK P B s w' h' X t v k:=by
 let⟨D,Q,y⟩:=IK O;have Z:Same h.F w w':=λb N=>g.iq r N;cases k with
 |no=>trivial
 |val e sh=>
  let⟨x,M,l⟩:=A;have u:=λp d y=>Z5Z;exact⟨x,M,l.keep (g.ik r u)<|g.ij u⟩
 |ni e sh=>
  let⟨x,M,l⟩:=A;have u:=λp d y=>Z5Z;exact⟨x,M,l.keep (g.mw r u)<|g.dv a1 u⟩
 |own ty e=>
  let⟨x,M,l⟩:=A;refine⟨x,M,?_⟩;rw[g.bl t L (λS=>by cases C S)];exact l.keep Z g.F λb N=>g.cn r L N
 |nil=>exact A
 |mem cs=>
  let⟨b,R,T,l,z,H,K⟩:=A;have C:t∉fz:=λS=>by cases C S
  exact⟨b,R,T,by rw[g.bl t L C];exact l,z,by rw[g.cn r L l];exact H,K.keep Z g.F (λi=>by rw[g.bl t L C]) λi b N=>g.cn r L N⟩
 |kf cs=>
  let⟨R,z,K⟩:=A;exact⟨R,z,K.keep Z g.F (λi=>by rw[g.bl t L (λS=>by cases C S)]) λi b N=>g.cn r L N⟩
 |im p=>
  exact(a2 p (λd=>by have:=D p d;simp[U5]at this)).trans A
 |ge p i=>
  have d:p∉ps:=λd=>by have:=D p d;simp[U5]at this
  let⟨b,l,z⟩:=A;exact⟨b,by rw[g.my p Z5h];exact l,by rw[Z75 (w:=w) (a:=⟨b,i,U⟩)<|g.cn r d l];exact z⟩
 |pm p o=>
  let⟨b,l,z⟩:=A;exact⟨b,by rw[g.my p (λd=>by have:=Q p d;simp[leads]at this)];exact l,z⟩
 |pc e o sh=>
  let⟨x,b,q,R,M,l,z,H,K,Y⟩:=A;have u:=λp d y=>Z5Z;exact⟨x,b,q,R,M,l,g.ij u b z,H,λi W=>by rw[(g.ik r u).cell z];exact K i W,λi ck W=>(Y i ck W).keep (g.ik r u)<|g.ij u⟩
 |pe p i j o k=>
  have d:p∉ps:=λd=>by have:=D p d;simp[U5]at this
  have a0:=λd=>by simp[RM]at y;exact y d
  let⟨n,q,l,z,H⟩:=A;exact⟨n,q,by rw[g.bl p d a0];exact l,z,H⟩
 |pa p o j n k=>
  have d:p∉rb:=λd=>by have:=Q p d;simp[leads]at this
  let⟨b,q,l,z,H,K⟩:=A;exact⟨b,q,by rw[g.my p d];exact l,z,H,K⟩
 |dh f a3=>
  let⟨R,l,z,H⟩:=A;refine⟨R,l,z,λi p W=> ?_⟩;let⟨b,K,Y⟩:=H i p W;have d:=λd=>by have:=Q p d;simp[leads]at this;exact this Z5h
  exact⟨b,by rw[g.my p d];exact K,Y⟩
end
def PRes(c:Ctx)(B:Nat)(G:Nat->Prop)(s:St)(w:World)(h:GH)(a:Nat->Option Value)(d:Nat)(k:TK)(v:Value)(w':World):Prop:=
 ∃h',Step B [d] [d] [] w w' h h'/\Ok B G w' h'/\RelK c.P B s w' h' a d v k
section
variable {c:Ctx}{B:Nat}{G:Nat->Prop}{s:St}{a:Act}{w:World}{h:GH}{g:Gam}{C:ZI}
def Step.refl ps rb w h:Step B ps rb [] w w h h:=⟨Z6r _ _,Z1,Z1,Z1,Z1,Z1,rfl⟩
theorem PRes.ap{f d k v}(a:Ok B G w h)(g:RelK c.P B s w h f d v k):PRes c B G s w h f d k v w:=
 ⟨h,Step.refl _ _ _ _,a,g⟩
def D8(r:RelG c B G s a w h g)(n:holds s<|ZK c C){x k}(hx:Ym g C x=k)(o:k.bu=xw):
  (∃v,x=.const v)\/(∃t,x=.tmp t/\look g C t=k/\∃v,a.tmps[t]?=J v/\a.eval x=v/\RelK c.P B s w h (λp=>a.tmps[p]?) t v k)\/∃f,x=.func f/\ .val (.c<|.fn f) []=k:=by
 cases x with
 |const v=>simp
 |tmp t=>
  have j:=hx;let⟨v,l,d,_⟩:=r.cj n j o;exact .inr<|.inl ⟨t,rfl,j,v,l,Act.an a t v l,d⟩
 |global q=>grind [Ym,TK.bu]
 |func f=>exact .inr<|.inr ⟨f,rfl,hx⟩
def Wv(k:RelG c B G s a w h g)(n:holds s<|ZK c C){x e sh}(d:Yy g C x=J (e,sh)):
  ∃y,eval s e=J y/\Rd w (h.ext sh) y (a.eval x):=by
 unfold Yy at d;cases x with
 |tmp t=>
  have o:(Ym g C<|.tmp t).bu=xw:=by
   cases r:Ym g C _<;>first|rfl|simp_all[XV]
  let⟨v,l,j,_⟩:=k.cj n rfl o;rw[Act.an a t v l];exact AR k l j d
 |const v=>
  simp[Ym]at d;split at d;rename_i heq;simp at heq;subst heq;simp[XV,Z6t]at d;obtain⟨rfl,rfl⟩:=d;exact⟨_,rfl,.nil _ _ Z0⟩;rename_i heq;simp at heq;subst heq;split at d;rename_i x p;simp[XV,Z6t]at d;obtain⟨rfl,rfl⟩:=d;exact⟨x,rfl,Kt p _ _⟩;grind [XV];simp_all;simp_all;grind
 |global q=>grind [Ym,XV]
 |func f=>
  obtain⟨rfl,rfl⟩:=d;exact⟨.fn f,rfl,.fn f⟩
def SQ(j:RelG c B G s a w h g)(d:holds s<|ZK c C){x e sh}(f:Ym g C x=.val e sh):=Wv j d (by unfold Yy;rw[f];rfl)
def Q5(o:RelG c B G s a w h g)(l:holds s<|ZK c C){x}(j:Ym g C x=.nil):a.eval x=.slice U 0 0:=by
 obtain⟨v,rfl⟩|⟨t,rfl,_,v,p,k,d⟩|⟨f,_,n⟩:=D8 o l j rfl;rotate_left 2;cases n;simp[Ym]at j;split at j;rename_i heq;simp at heq;subst heq;rfl;grind;simp_all;simp_all;grind;rw[k];exact d
def Rd.F{x v}(hx:Rd w (h.ext []) x v):Rd w h.F x v:=hx.mono λ_ a=>GH.it a
def Rd.io{G' G'' x v}(hx:Rd w G' x v)(a:x.bq=xk):Rd w G'' x v:=by
 cases hx<;>first|exact .int _ _|exact .bool _|exact .str _|simp[V.bq]at a
def Z03{op x y z}(a:X2 op x y=J z){G' G'' v u}(j:Rd w G' x v)(g:Rd w G'' y u)T o p:
  ∃r,(do eqGuard op T o p v u;binOp op T v u:Sem Value).run c.P w=.ok r w/\Rd w h.F z r:=by
 cases j<;>cases g<;>(try (cases op<;>simp[X2]at a;done))
 rename_i k n q l;cases op<;>simp only[X2]at a<;>(try split at a)<;>(try simp[Z6c]at a)<;>(try subst a)<;>(try (simp at a;done));all_goals
  first|refine⟨.int _ _,?_,.int _ _⟩|refine⟨.bool _,?_,.bool _⟩
  first
   |(rename_i d;subst d;simp[eqGuard,binOp,Op.intArith,Op.intBits,Op.intCmp];done)
   |(rename_i d;obtain⟨rfl,f⟩:=d;simp[eqGuard,binOp,Op.intDiv,f];done)
   | (rename_i d;have:¬l<0:=by omega
      simp[eqGuard,binOp,Op.shift,this];done)
def F0{neg x y z}(d:TS neg x y=J z){G' G'' v u}(k:Rd w G' x v)(j:Rd w G'' y u){T}(f:zW c.P T=xk)l n:
  ∃r,(do eqGuard (if neg then .neq else .eql) T l n v u;binOp (if neg then .neq else .eql) T v u:Sem Value).run c.P w=.ok r w/\Rd w h.F z r:=by
 have g:c.P.underlying T=J .bool:=by
  unfold zW at f;split at f;assumption;simp at f
 cases k with
 |bool a=>
  cases j with
  |bool b=>
   simp[TS]at d;subst d;refine⟨.bool _,?_,.bool _⟩;cases neg;simp_all[run_eql_bool,eqGuard];simp_all[run_neq_bool,eqGuard]
  |_=>simp[TS]at d
 |_=>simp[TS]at d
def Z0d{op x z}(a:Tx op x=J z){G' v}(d:Rd w G' x v):∃r,(Op.unary op v).run c.P w=.ok r w/\Rd w h.F z r:=by
 cases d<;>(try (cases op<;>simp[Tx]at a;done))
 .rename_i k n;cases op<;>simp only[Tx,Z6c]at a<;>first|(simp at a;done)|skip
  subst a;exact⟨.int _ _,by rfl,.int _ _⟩
 .rename_i b;cases op<;>simp[Tx]at a<;>first|(simp at a;done)|skip
  subst a;exact⟨.bool _,by rfl,.bool _⟩
def Z04{k x z}(a:RA k x=J z){G' v}(f:Rd w G' x v){S T}(d:(c.P.underlying S).isSome=xk)(j:c.P.underlying T=J (.int k)):
  ∃r,(convert S T v).run c.P w=.ok r w/\Rd w h.F z r:=by
 let⟨g,d⟩:=Z7l.1 d;cases f<;>(try (simp[RA]at a;done));simp[RA,Z6c]at a;subst a;exact⟨.int _ _,by simp_all[convert,Z6M,Conv.intToInt],.int _ _⟩
def Z06{x z}(a:SJ x=J z){G' v}(f:Rd w G' x v){T ty e}(d:c.P.underlying T=J (.slice e)):
  ∃r,(Builtin.len_ #[T] ty #[v]).run c.P w=.ok r w/\Rd w h.F z r:=by
 cases f with
 |nil g cap y=>
  simp[SJ,Z6c]at a;subst a;exact⟨.int .i64 0,Z5X,.int _ _⟩
 |sl l b o cap k A j n p q t u=>
  simp[SJ,Z6c]at a;subst a;exact⟨.int .i64<|I l,Z5X,.int _ _⟩
 |_=>simp[SJ]at a
def Z08{x y z}(a:SM x y=J z){G' G'' v u}(f:Rd w G' x v)(d:Rd w G'' y u)ts ty:
  ∃r,(Builtin.min_ ts ty #[v,u]).run c.P w=.ok r w/\Rd w h.F z r:=by
 cases f<;>(try (simp[SM]at a;done));cases d<;>(try (simp[SM]at a;done));rename_i k n g j;simp[SM]at a;subst a;exact⟨.int k _,by rfl,.int _ _⟩
def Z07{x y z}(a:SL x y=J z){G' G'' v u}(f:Rd w G' x v)(d:Rd w G'' y u)ts ty:
  ∃r,(Builtin.max_ ts ty #[v,u]).run c.P w=.ok r w/\Rd w h.F z r:=by
 cases f<;>(try (simp[SL]at a;done));cases d<;>(try (simp[SL]at a;done));rename_i k n g j;simp[SL]at a;subst a;exact⟨.int k _,by rfl,.int _ _⟩
def Z05{x z i}(a:Tc x i=J z){G' v}(j:Rd w G' x v):∃r,(Instr.extract v i).run c.P w=.ok r w/\Rd w G' z r:=by
 cases j<;>(try (simp[Tc]at a;done));rename_i l f g h;simp[Tc]at a;have d:i<f.size:=by rw[g];exact(Z6d.1 a).1
 refine⟨f.getD i xy,?_,h i z a⟩;simp[Instr.extract,d]
theorem VD{P T}(a:YN P T=xk):∃d i,P.underlying T=J d/\P.info? T=J i/\P.cellsOf T=i.size/\∀w,(isAgg T).run P w=.ok (Y9 P T) w:=by
 simp[YN]at a;let⟨d,f⟩:=Z7l.1 a.1;let⟨i,g⟩:=Z7l.1 a.2;refine⟨d,i,f,g,by simp[Program.cellsOf,g],λw=> ?_⟩;unfold isAgg Y9;rw[Z8Q,Z6M f w,f];cases d<;>rfl
theorem VH{P T i}(a:P.info? T=J i)w:(Go.sizeOf T).run P w=.ok i.size w:=by
 simp[Go.sizeOf,typeInfo,a]
def JN{P T}(f:YN P T=xk)(g:Y9 P T=xw){b o v}(h:w.cell? ⟨b,o,U⟩=J v):
  (Instr.loadAt T<|.pointer<|J ⟨b,o,U⟩).run P w=.ok v w:=by
 let⟨d,i,j,k,l,a⟩:=VD f;simp_all[Instr.loadAt,Instr.sureAddr,loadVar]
def jB{P T}(f:YN P T=xk)(g:Y9 P T=xk){b o}(vs:List Value)(q:I vs=P.cellsOf T)(h:∀i u,vs[i]?=J u->w.cell? ⟨b,o+i,U⟩=J u):
  (Instr.loadAt T<|.pointer<|J ⟨b,o,U⟩).run P w=.ok (.agg vs.toArray) w:=by
 let⟨d,i,k,l,r,a⟩:=VD f;have p:=run_loadCells_list (P:=P) w ⟨b,o,U⟩ vs (λj u n=>by simp_all[Z7L]);simp_all[Instr.loadAt,Instr.sureAddr,loadVar,VH]
theorem S1{x z}(h:YS x=J z):x=z/\z.aj=xk:=by
 unfold YS at h;grind
def Pu{p cs}:∀ {i},Us p i cs=xk->∀j x,cs[j]?=J x->x.2=E.m p (i+j):=by
 induction cs with
 |nil=>simp
 |cons y r f=>
  intro i a j x d;let⟨k,e⟩:=y;cases e<;>simp[Us]at a<;>first|(cases a;done)|skip
  grind
theorem zX{p i cs x}(N:Us p i cs=xk)(w:0<I cs)(hx:eval s (.ag (cs.map (·.2)))=J (.agg x))(o:∀(j:Nat) e,cs[j]?=J e->∃y,eval s e.2=J y/\y.aj=xk):
  eval s (.mm p i<|I cs)=J (.agg x):=by
 simp[eval,Z6f]at hx;let⟨f,F,M⟩:=hx;let⟨H,a⟩:=Ud F;have d:I f=I cs:=by simpa using H
 have B:∀j,j<I cs->∃l,ZJ s p=.m l/\∃y,l[i+j]?=J y/\f[j]?=J y:=by
  intro j k;let⟨y,B,h⟩:=a j (cs[j].2) (by simp[k]);rw[Pu N j cs[j] Z1]at h;simp[eval]at h;split at h;rename_i l H;rw[Z6a]at h;let⟨Q,h,g⟩:=h;obtain⟨rfl,_⟩:=S1 g;simp_all;grind
 let⟨l,t,_⟩:=B 0 w;have C:∀j,j<I cs->l[i+j]?=f[j]? :=by
  intro j k;let⟨P,d,y,g,r⟩:=B j k;rw[t]at d;cases d;rw[g,r]
 have K:i+I cs<=I l:=by
  have g:=C (I cs-1) Z0;have r:f[I cs-1]?=J f[I cs-1]:=Z1;rw[r]at g;have:=(Z6d.1 g).1;omega
 have L:(l.drop i).take (I cs)=f:=by
  apply Z81;intro j;rw[Z6O];split;simp_all;simp_all
 have A:∀y∈f,y.aj=xk:=by
  intro y D;let⟨j,k⟩:=Z6A D;have u:j<I cs:=by have:=(Z6d.1 k).1;omega
  let⟨z,O,G⟩:=o j cs[j] Z1;let⟨R,q,n⟩:=a j (cs[j].2) (by simp[u]);rw[k]at q;cases q;rw[O]at n;cases n;exact G
 simp_all[Tb,V.agg.injEq,SA,eval]
def RelCs.part{P t cs vs}(f:RelCs P B s w h t cs vs){o n}(j:I ((cs.drop o).take n)=n):
  ∀i d,((cs.drop o).take n)[i]?=J d->RelC P B s w h (h.bl t<|o+i+1) d.1 d.2 (vs.getD (o+i) xy)/\vs[o+i]?=J (vs.getD (o+i) xy):=by
 intro i d a;rw[Z6O]at a;split at a;rw[Z6C]at a;refine⟨f.2 _ _ a,?_⟩;have g:o+i<vs.size:=by rw[f.1];exact(Z6d.1 a).1
 simp_all;grind
def RelCs.iy{P t cs vs}(H:RelCs P B s w h t cs vs){o n}(r:I ((cs.drop o).take n)=n)(Y:Wd ((cs.drop o).take n)=xw){G'}(M:∀b,h.F b->G' b)
  (ho:U9 ((cs.drop o).take n)=xk->∀i b,h.bl t (i+1)=J b->G' b):
  ∃x,eval s (.ag (((cs.drop o).take n).map (·.2)))=J (.agg x)/\I x=n/\(∀(j:Nat) e,((cs.drop o).take n)[j]?=J e->∃y,eval s e.2=J y/\y.aj=xk)/\
   Rd w G' (.agg x) (.agg ((vs.toList.drop o).take n).toArray)/\∀i u,((vs.toList.drop o).take n)[i]?=J u->vs[o+i]?=J u:=by
 have Q:=H.part r;have R:I ((vs.toList.drop o).take n)=n:=by
  have D:=H.1;simp at r⊢;omega
 have A:∀i,i<n->((vs.toList.drop o).take n)[i]?=vs[o+i]? :=by
  intro i a;rw[Z6O,Z6k a,Z6C,Z7n]
 have key:∀i k e,((cs.drop o).take n)[i]?=J (k,e)->∃x,eval s e=J x/\x.aj=xk/\Rd w G' x (vs.getD (o+i) xy):=by
  intro i k e a;refine(Q i _ a).1.rd ?_ M ?_;grind [Wd,List.any_eq_true];grind [U9,List.any_eq_true]
 have d:∀e∈((cs.drop o).take n).map (·.2),∃x,eval s e=J x:=by
  intro e N;obtain⟨⟨k,X⟩,hm,rfl⟩:=Z6F.1 N;grind [List.getElem?_of_mem]
 let⟨p,C⟩:=Bj d;let⟨O,S⟩:=Ud C;have q:I p=n:=by rw[O,Z6D,r]
 have G:∀i x,p[i]?=J x->x.aj=xk/\Rd w G' x (vs.getD (o+i) xy):=by
  intro i x a;have f:i< I ((cs.drop o).take n):=by
   have:=(Z6d.1 a).1;omega
  let⟨y,W,D,L⟩:=key i ((cs.drop o).take n)[i].1 ((cs.drop o).take n)[i].2 Z5h;let⟨z,K,l⟩:=S i (((cs.drop o).take n)[i].2) Z5h;rw[a]at K;cases K;rw[W]at l;cases l;exact⟨D,L⟩
 have g:∀x∈p,x.aj=xk:=λx T=>by
  grind [List.getElem?_of_mem]
 refine⟨p,?_,q,λj e Z=> ?_,.agg p _ Z5i g λi x a=> ?_,λi u a=> ?_⟩;simp_all[eval,Z8i,Tb,SA];grind;have f:i<n:=by have:=(Z6d.1 a).1;omega
 have:((vs.toList.drop o).take n).toArray.getD i xy=vs.getD (o+i) xy:=by
  simp[Z6g,Z7E,A i f]
 simp_all;grind
end
end Vm
namespace Vm
open Go
open Go.RowKit (Below)
section
variable {c:Ctx}{B:Nat}{G:Nat->Prop}{s:St}{a:Act}{w:World}{h:GH}{g:Gam}{C:ZI}
def Has(c:Ctx)(B:Nat)(s:St)(w:World)(h:GH)(a:Nat->Option Value)(d:Nat)(k:TK)(m:Sem Value):Prop:=
 ∃v,m.run c.P w=.ok v w/\RelK c.P B s w h a d v k
def Bx{x z o}(h:Ya x o=J z):x.pc[o]?=J z:=by
 unfold Ya at h;rw[Z6a]at h;let⟨y,a,d⟩:=h;rw[a,(S1 d).1]
def KG{x z o n}(h:Ug x o n=J z):o+n<=I x.pc/\z=.agg ((x.pc.drop o).take n):=by
 simp_all[Ug,Z6c]
def yV{T}(A:YN c.P T=xk){x b q o}{vs:Nat->Value}{sh}(C:∀y∈x.pc,y.aj=xk)
  (j:∀i,i<I x.pc->w.cell? ⟨b,q+i,U⟩=J (vs i)) (r:∀i y,x.pc[i]?=J y->Rd w (h.ext sh) y (vs i)) {e} (n:eval s e=J x)
  (p:∃z,eval s (if Y9 c.P T then .bp e o (c.P.cellsOf T)else .ac e o)=J z) F d:
  Has c B s w h F d (.val (if Y9 c.P T then .bp e o (c.P.cellsOf T)else .ac e o) sh) (Instr.loadAt T<|.pointer<|J ⟨b,q+o,U⟩):=by
 let⟨z,g⟩:=p;cases f:Y9 c.P T with
 |false=>
  rw[f]at g;simp[eval,n]at g⊢;have t:=Bx g;have a:=(Z6d.1 t).1;exact⟨vs o,JN A f Z5i,z,by simp[eval,n];exact g,Z5i⟩
 |true=>
  rw[f]at g;simp[eval,n]at g⊢;obtain⟨D,rfl⟩:=KG g;have l:I ((x.pc.drop o).take<|c.P.cellsOf T)=c.P.cellsOf T:=Z5j;refine⟨.agg ((List.range<|c.P.cellsOf T).map λi=>vs<|o+i).toArray,jB A f _ Z1 (λi u k=> ?_),_,by simp[eval,n];exact g,?_⟩;have a:i<c.P.cellsOf T:=by simpa using(Z6d.1 k).1
  have:vs (o+i)=u:=by simpa[a]using k
  rw[<-this,Z77];exact j _ Z0;refine .agg _ _ (by simp[l]) Z5h λi y k=> ?_;have a:i<c.P.cellsOf T:=by have:=(Z6d.1 k).1;omega
  rw[Z6O,Z6k a,Z6C]at k;have:((List.range<|c.P.cellsOf T).map λi=>vs<|o+i).toArray.getD i xy=vs (o+i):=by
   simp[a]
  rw[this];exact r _ y k
def Rd.la{G' G'' x v}(hx:Rd w G' x v)(r:∀y∈x.cells,y.bq=xk)(H:∀l,x≠.am l):Rd w G'' x v:=by
 cases hx with
 |agg p h d g j=>exact .agg p h d g λi y t=>(j i y t).io<|r y<|Z6n t
 |am l h d g=>simp_all
 |int k n=>exact .int _ _
 |bool b=>exact .bool _
 |str b=>exact .str _
 |nil a cap B=>exact .nil _ _ B
 |sl l b o cap k h d g j q z A=>simp_all[V.cells,V.bq]
 |ptr p b o h d g j q=>simp_all[V.cells,V.bq]
 |fn f=>exact .fn f
 |dh f p h d g=>simp_all[V.cells,V.bq]
 |li=>exact .li
 |lj=>exact .lj
 |lf=>exact .lf
 |mp id C D b u F G d g j q z A=>exact absurd (r (.mp id C D)<|by simp[V.cells]) (by simp[V.bq])
def Q4(q:RelG c B G s a w h g)(l:holds s<|ZK c C){x k}(hx:Ym g C x=k)(d:k.bu=xw):
  ((∃e,k=.val e [])\/k=.nil)\/∃t,x=.tmp t/\(∃v,a.tmps[t]?=J v/\a.eval x=v/\RelK c.P B s w h (λp=>a.tmps[p]?) t v k)/\(g.at t).2=k/\Sq (g.at t).1 C=xk:=by
 obtain⟨v,rfl⟩|⟨t,rfl,o,v,z,n,j⟩|⟨f,_,y⟩:=D8 q l hx d;rotate_left 2;grind;left;simp[Ym]at hx;split at hx;exact .inr hx.symm;split at hx;exact .inl ⟨_,hx.symm⟩;subst hx;simp[TK.bu]at d;simp_all;simp_all;subst hx;simp[TK.bu]at d;let⟨r,u⟩:=Cl o d;simp_all
def RelK.kx{a t d v k}(g:RelK c.P B s w h a t v k)(f:k.lc=xk):RelK c.P B s w h a d v k:=by
 cases k<;>first|exact g|simp[TK.lc]at f
def XD(n:RelG c B G s a w h g)(j:holds s<|ZK c C){x k}(hx:Ym g C x=k)(q:k.lc=xk)d:
  RelK c.P B s w h (λp=>a.tmps[p]?) d (a.eval x) k:=by
 have r:k.bu=xw:=by cases k<;>first|rfl|simp[TK.lc]at q
 obtain(⟨e,rfl⟩|rfl)|⟨t,rfl,⟨v,z,l,f⟩,_⟩:=Q4 n j hx r;let⟨y,u,o⟩:=SQ n j hx;exact⟨y,u,o⟩;exact Q5 n j hx;rw[l];exact f.kx q
def Ph(n:RelG c B G s a w h g)(q:holds s<|ZK c C){x k u}(f:je g C x=J (k,u))d:
  RelK c.P B s w h (λp=>a.tmps[p]?) d (a.eval x) k:=by
 unfold je at f;split at f;rename_i D;obtain⟨rfl,rfl⟩:=f;exact XD n q rfl D d;split at f;rename_i t H e _ l;obtain⟨rfl,rfl⟩:=f;let⟨v,j,_⟩:=n.cj q (show look g C t=_ from l) rfl;rw[Act.an a t v j];exact j;rename_i t r _ l;obtain⟨rfl,rfl⟩:=f;let⟨v,j,⟨b,K,T,y,z,_⟩,_⟩:=n.cj q (show look g C t=_ from l) rfl;rw[Act.an a t v j];exact⟨b,y,z⟩;rename_i t r _ l;simp only[Z6f]at f;let⟨⟨e,F⟩,A,f⟩:=f;obtain⟨rfl,rfl⟩:=f;let⟨v,j,o,_⟩:=n.cj q (show look g C t=_ from l) rfl;rw[Act.an a t v j];exact AR n j o A;grind
def Sz{fl b v y}(k:eval s b.1=J y)(f:Rd w (h.ext b.2) y v)(o:∃z,eval s (XG fl b).1=J z):
  ∃z,eval s (XG fl b).1=J z/\Rd w (h.ext (XG fl b).2) z v:=by
 let⟨z,a⟩:=o;unfold XG at a⊢;split;simp_all;split;rename_i j d;simp[j,d,eval,k]at a;refine⟨z,by simp_all[eval,Z6s],?_⟩;unfold Ws at a;split at a;grind;rename_i p;split at a;rename_i g;simp at a;subst a;exact f.la Z5i λl n=>p l n;grind;simp_all
def P2(o:RelG c B G s a w h g)(n:holds s<|ZK c C){ty x k t}(j:qR c g C ty x=J (k,t))(u:∀e∈t,∃z,eval s e=J z)d:
  RelK c.P B s w h (λp=>a.tmps[p]?) d (a.eval x) k:=by
 unfold qR at j;split at j;rename_i e l;obtain⟨rfl,rfl⟩:=j;exact XD o n l rfl d;rename_i e p F l;split at j;simp at j;obtain⟨rfl,rfl⟩:=j;let⟨y,A,q⟩:=SQ o n l;have:=Sz (s:=s) (w:=w) (h:=h) (fl:=xk) (b:=(e,p::F)) A q (by simp_all[XG]);let⟨z,H,D⟩:=this;exact⟨z,by simp_all[XG],by simp_all[XG]⟩;grind;rename_i l;obtain⟨rfl,rfl⟩:=j;exact XD o n l rfl d;rename_i f r l;obtain⟨rfl,rfl⟩:=j;exact XD o n l rfl d;grind
def Pi(H:RelG c B G s a w h g)(A:holds s<|ZK c C){x k K}(l:jf g C x=J (k,K))(D:∀e∈K,∃z,eval s e=J z)o(Q:o.op=.nilCheck x)d:
  ∃v,(execOp a.eval o).run c.P w=.ok (.value v) w/\RelK c.P B s w h (λp=>a.tmps[p]?) d v k:=by
 unfold execOp;simp[Q];unfold jf at l;split at l;rename_i R j;obtain⟨rfl,rfl⟩:=l;obtain⟨t,rfl,⟨v,S,F,⟨b,M,T,f,rfl,_⟩⟩,_⟩:=(Q4 H A j rfl).resolve_left Z1;rw[F];exact⟨_,rfl,b,f,rfl⟩;rename_i p q j;obtain⟨rfl,rfl⟩:=l;let⟨b,f,u⟩:=XD H A j rfl d;rw[u];exact⟨_,rfl,b,f,rfl⟩;rename_i e W j;obtain⟨rfl,rfl⟩:=l;let⟨y,L,n⟩:=SQ H A j;let⟨z,r⟩:=D _<|List.Mem.head _;generalize a.eval x=v at n;simp[eval,L]at r;unfold UA at r;split at r;cases n with
 |ptr _ b o M f u N O=>exact⟨_,rfl,_,L,.ptr _ b o M f u N O⟩
 cases r;grind
theorem Ch(X:RelG c B G s a w h g){T}(F:YN c.P T=xk){p o k}(l:L0 c g T p o=J k){b}(r:h.bl p 0=J b)d:
  Has c B s w h (λp=>a.tmps[p]?) d k (Instr.loadAt T<|.pointer<|J ⟨b,o,U⟩):=by
 unfold L0 at l;simp only[Z6a]at l;let⟨O,R,l⟩:=l;let⟨b',n,L,H,_,K,j⟩:=X.dc R;rw[r]at H;cases H;split at l;rename_i t;split at l;rename_i z;let⟨S,Q,h0⟩:=z;simp at l;let⟨x,N,Z,M,A,Y⟩:=j.iy S Q (G':=h.ext<|if U9 ((O.drop o).take<|c.P.cellsOf T)=xk then [p]else []) (λb r=>GH.bz r) (λW i b r=>by rw[Z6k W];exact .inr ⟨p,Z1,i,r⟩);refine⟨_,jB F t ((n.toList.drop o).take<|c.P.cellsOf T) ?_ (λi u hi=> ?_),?_⟩;have h2:=j.1;simp_all;grind [cell_of_row];rw[<-l];refine⟨.agg x,?_,A⟩;grind [zX];grind;rename_i t;have q:Y9 c.P T=xw:=by simpa using t
 split at l;rename_i e y;simp at l;let⟨x,N,H,A⟩:=j.2 o _ y;have C:o<n.size:=Z5R;refine⟨n.getD o xy,JN F q Z60,?_⟩;rw[<-l];exact⟨x,N,A.mono λb r=>GH.bz r⟩;rename_i a0 e y;simp at l;have C:o<n.size:=Z5R;have f:w.cell? ⟨b,o,U⟩=J (n.getD o xy):=Z60;refine⟨n.getD o xy,JN F q f,?_⟩;rw[<-l];exact⟨b,r,f⟩;rename_i e y;simp at l;let⟨D,_⟩:=j.2 o _ y;have C:o<n.size:=Z5R;have f:w.cell? ⟨b,o,U⟩=J (n.getD o xy):=Z60;refine⟨n.getD o xy,JN F q f,?_⟩;rw[<-l];exact D;grind
def Kl{x i z n k ag}(d:Y4 x i n k ag=J z):∃a f j,x=.agg a/\i=.int f (j:Nat)/\j<n/\I a=n*k/\
  (if ag then J (V.agg<|(a.drop<|j*k).take k)else a[j*k]?)=J z:=by
 unfold Y4 at d;split at d;rename_i a f i;split at d;rename_i l;let⟨g,o,h⟩:=l;obtain⟨j,rfl⟩:=Z6q g;exact⟨a,f,j,rfl,rfl,Z0,h,Z5E⟩;grind;grind
theorem Nq(hr:RelG c B G s a w h g){T}(hT:YN c.P T=xk){p o j m f k}(K:yT c g T p o j m f=J k)(a0:∀e∈Ab k,∃z,eval s e=J z)
  {b q} (R:h.bl p 0=J b) {ki} (hj:eval s j=J (.int ki (q:Nat))) (hq:q<m) d:
  Has c B s w h (λp=>a.tmps[p]?) d k (Instr.loadAt T<|.pointer<|J ⟨b,o+q*f,U⟩):=by
 unfold yT at K;simp only[Z6a]at K;let⟨Q,hm,K⟩:=K;let⟨b',L,ty,h1,_,hh,S⟩:=hr.dc hm;rw[R]at h1;cases h1;split at K;rename_i M;let⟨hn,hk,h0,a9,hd⟩:=M;simp only[Z6c]at K;let⟨x,hx,Z,Y,a5,b0⟩:=S.iy hn hd (G':=h.F) Z1 Z5i;have H:eval s (if Us (c.ix p) o ((Q.drop o).take<|m*f)=xk then E.mm (c.ix p) o (I<|(Q.drop o).take<|m*f) else .ag (((Q.drop o).take<|m*f).map (·.2)))=J (.agg x):=by
  split;rename_i hp;exact zX hp (by rw[hn];exact h0) hx Y;exact hx
 generalize (if Us _ o _=xk then E.mm _ o (I<|(Q.drop o).take _) else .ag _)=ee at H K;subst K;let⟨z,O⟩:=a0 _<|List.Mem.head _;simp[eval,H,hj,Z6s]at O;let⟨a7,b1,C,W,a2,a4,a6,r⟩:=Kl O;cases W;have a3:C=q:=by
  simp at a2;omega
 subst a3;have a8:C*f+f<=m*f:=by
  rw[<-Z7s];exact Z6T _ a4
 have t:∀i,i<m*f->w.cell? ⟨b,o+i,U⟩=J (L.getD (o+i) xy):=by
  intro i n;have a1:i< I ((Q.drop o).take<|m*f):=by rw[hn];exact n
  have:=(S.part hn i _<|Z6b a1).2;rw[Z6j w b _ L ty _ hh,this]
 have A:∀i y,x[i]?=J y->y.aj=xk/\Rd w h.F y (L.getD (o+i) xy):=by
  intro i y n;have X:i<m*f:=by rw[<-Z];exact(Z6d.1 n).1
  cases a5 with
  |agg _ _ h1 h2 h3=>
   have:=h3 i y n;have hg:((L.toList.drop o).take<|m*f).toArray.getD i xy=L.getD (o+i) xy:=by
    simp[Z6g,Z7E,Z6O,Z6k X,Z6C,Z7n]
   rw[hg]at this;exact⟨h2 y<|Z6n n,this⟩
 cases D:Y9 c.P T with
 |false=>
  rw[D]at r O;have l:C*f<m*f:=by rw[<-Z];exact(Z6d.1 r).1
  refine⟨_,JN hT D<|t _ l,z,by simp[eval,H,hj,Z6s];exact O,(A _ z r).2.mono λb R=>GH.bz R⟩
 |true=>
  rw[D]at r O;simp at r;subst r;refine⟨.agg ((List.range f).map λi=>L.getD (o+(C*f+i)) xy).toArray,jB hT D _ (by simp[hk]) (λi u n=> ?_),_,by simp[eval,H,hj,Z6s];exact O,?_⟩;have l:i<f:=by simpa using(Z6d.1 n).1
  have:L.getD (o+(C*f+i)) xy=u:=by simpa[l]using n
  rw[<-this,show o+C*f+i=o+(C*f+i)from by omega];exact t _ Z0;have N:I ((x.drop<|C*f).take f)=f:=Z5j;refine .agg _ _ (by simp[Z7y,Z6D,List.length_range,N]) (λy hy=> ?_) λi y n=> ?_;let⟨i,n⟩:=Z6A<|Z8x<|Z7i hy;exact(A i y n).1;have l:i<f:=by have:=(Z6d.1 n).1;omega
  rw[Z6O,Z6k l,Z6C]at n;have:((List.range f).map λi=>L.getD (o+(C*f+i)) xy).toArray.getD i xy=L.getD (o+(C*f+i)) xy:=by
   simp[Z6g,l]
  rw[this];exact(A _ y n).2.mono λb R=>GH.bz R
 simp at K
def OwnV.elem{o ty x v}(Q:OwnV c.P B w h o ty x v){S q y T}(d:YZ x (.int S (q:Nat)) T=J y):
  ∃l n cap a,∃D:Nat->Value,x=.sl l/\l[q]?=J y/\o=J n/\v=.slice (J ⟨n,0,U⟩) (I l) cap/\w.heap[n]?=J (.cells a ty (0,0))/\y.ah (c.P.cellsOf ty)/\q*c.P.cellsOf ty+c.P.cellsOf ty<=a.size/\
   (∀i,i<c.P.cellsOf ty->w.cell? ⟨n,q*c.P.cellsOf ty+i,U⟩=J (D i))/\∀i z,y.cells[i]?=J z->Rd w h.F z (D i):=by
 obtain⟨l,D,rfl,X,f,g,M,r⟩|⟨_,_,_,_,_,_,rfl,_⟩:=Q;case inr=>simp[YZ]at d
 simp only[YZ]at d;split at d;rw[Z6p,Z6a]at d;let⟨W,d,j⟩:=d;split at j<;>first|(simp at j;subst W)|simp_all
 have p:=(Z6d.1 d).1;obtain⟨rfl,Y⟩|⟨n,cap,a,rfl,_,G,k,_,t,A⟩:=g.2;omega;have H:q*c.P.cellsOf ty+c.P.cellsOf ty<=I l*c.P.cellsOf ty:=by
  rw[<-Z7s];exact Z6T _ p
 have K:I l*c.P.cellsOf ty<=a.size:=by rw[t];exact Z6T _ k
 refine⟨l,n,cap,a,λi=>a.getD (q*c.P.cellsOf ty+i) xy,rfl,d,by rw[<-M];rfl,rfl,G,Z5h,Z0,λi N=> ?_,λi z R=> ?_⟩;rw[Z6j w n _ a ty _ G];have:q*c.P.cellsOf ty+i<a.size:=Z0;simp_all;have N:i<c.P.cellsOf ty:=by
  have:=(Z6d.1 R).1;rw[(f y<|Z6n d).1]at this;exact this
 let⟨u,L,O⟩:=r (q*c.P.cellsOf ty+i) z (by simp_all[UO]);have:a.getD (q*c.P.cellsOf ty+i) xy=u:=by
  rw[<-A,Z6O,Z6k Z0]at L;have C:a[q*c.P.cellsOf ty+i]?=J u:=by simpa using L
  simp[Z6g,C]
 simp_all;omega
def Bu{x:V}{k}(h:x.ah k):x.pc=x.cells:=by
 rfl
theorem Nr(hr:RelG c B G s a w h g){T}(S:YN c.P T=xk){p i j o C k}(u:yU c g T p i j o C=J k)(L:∀e∈Ab k,∃z,eval s e=J z)
  {n q} (K:h.bl p (S9 i)=J n) {Q} (W:eval s j=J (.int Q (q:Nat))) d:
  Has c B s w h (λp=>a.tmps[p]?) d k (Instr.loadAt T<|.pointer<|J ⟨n,q*C+o,U⟩):=by
 unfold yU at u;simp only[Z6a]at u;let⟨⟨ty,e⟩,Z,u⟩:=u;split at u;rename_i X;simp at u;subst u;let⟨v,x,_,hx,F⟩:=hr.dp Z;let⟨z,t⟩:=L _<|List.Mem.head _;have D:∃y,eval s (.bc e j C)=J y:=by
  unfold QI at t;split at t;simp[eval]at t⊢;cases H:((eval s e).bind λx=>(eval s j).bind λy=>YZ x y C)with
  |none=>simp_all
  |some y=>simp
  simp[eval]at t⊢;cases H:((eval s e).bind λx=>(eval s j).bind λy=>YZ x y C)with
  |none=>simp_all
  |some y=>simp
 let⟨y,H⟩:=D;have O:YZ x (.int Q q) C=J y:=by
  simp[eval,hx,W,Z6s]at H;exact H
 obtain⟨l,n',cap,R,xs,rfl,Y,M,rfl,hh,f,_,r,N⟩:=F.elem O;rw[K]at M;simp at M;subst M;rw[X]at r f;have A:=Bu f;exact yV (c:=c) (B:=B) (sh:=[p]) S (b:=n) (q:=q*C) (o:=o) (vs:=xs) (by rw[A];exact f.2) (by rw[A,f.1];exact r) (λi z t=>by rw[A]at t;exact(N i z t).mono λb K=>GH.bz K) H ⟨z,t⟩ _ d;grind
def Pa(A:RelG c B G s a w h g)(D:holds s<|ZK c C){T x k W}(N:qZ c g C T x=J (k,W))(K:∀e∈W,∃z,eval s e=J z)d:
  Has c B s w h (λp=>a.tmps[p]?) d k (Instr.loadAt T<|a.eval x):=by
 unfold qZ at N;split at N;rename_i O;simp at N;obtain⟨k',r,rfl,rfl⟩:=N;unfold Cg at r;split at r;rename_i S f;obtain⟨t,rfl,⟨v,hv,P,⟨b,vs,ty,l,rfl,_⟩⟩,_⟩:=(Q4 A D f rfl).resolve_left Z1;rw[P];exact Ch A O r l d;rename_i p o f;let⟨b,l,F⟩:=XD A D f rfl d;grind [Ch];rename_i e o sh f;simp at r;subst r;let⟨y,b,q,vs,Y,l,F,H,M,Z⟩:=XD A D f rfl d;rw[l];exact yV O H M Z Y (K _<|List.Mem.head _) _ d;rename_i e sh f;simp at r;subst r;let⟨y,hy,L⟩:=SQ A D f;let⟨z,X⟩:=K _<|List.Mem.head _;have Q:∃u,UA y=J u:=by
  unfold QI at X;cases R:UA y with
  |none=>grind [eval]
  |some u=>simp
 let⟨u,R⟩:=Q;generalize a.eval x=v at L;cases L with
 |ptr S b o vs l F H M=>
  simp[UA,Z6c]at R;exact yV (c:=c) (B:=B) (sh:=sh) O (x:=.agg S) (b:=b) (q:=o) (o:=0) (vs:=vs) F H M (by simp[eval,hy,UA]) ⟨z,X⟩ _ d
 |_=>simp[UA]at R
 rename_i p i j o kk f;let⟨n,q,l,⟨ki,F⟩,H⟩:=XD A D f rfl d;grind [Nr];rename_i p o j m kk f;let⟨b,q,l,⟨ki,F⟩,H,M⟩:=XD A D f rfl d;grind [Nq];grind;grind
end
end Vm
namespace Vm
open Go
open Go.RowKit (Below)
section
variable {c:Ctx}{B:Nat}{G:Nat->Prop}{s:St}{a:Act}{w:World}{h:GH}{g:Gam}{C:ZI}
def yE{P:Program}{T}(h:P.cellsOf T≠0):∃i,P.info? T=J i/\P.cellsOf T=i.size:=by
 unfold Program.cellsOf at h⊢;cases a:P.info? T with
 |none=>grind
 |some i=>simp
def Fw{P T d}(h:Vb P T=.st d):∃a,P.underlying T=J (.struct a)/\(∀g∈a,YN P g.type=xk)/\d=a.toList.map λf=>(f.offset,P.cellsOf f.type,Y9 P f.type,XB P f.type):=by
 unfold Vb at h;grind
def Bl{P T f x}(g:QO P T f=J x):
  ∃d a,P.underlying T=J (.struct d)/\d[f]?=J a/\YN P a.type=xk/\x=(a.offset,P.cellsOf a.type,Y9 P a.type,XB P a.type):=by
 unfold QO at g;split at g;rename_i d h;obtain⟨k,l,j,rfl⟩:=Fw h;grind;cases g
def JM{T f b o x}(a:QO c.P T f=J x)(g:x.2.1≠0):
  (Instr.fieldAt T (.pointer<|J ⟨b,o,U⟩) f).run c.P w=.ok (.pointer<|J ⟨b,o+x.1,U⟩) w:=by
 obtain⟨j,h,n,d,_,rfl⟩:=Bl a;let⟨i,k,l⟩:=yE g;simp_all[Instr.fieldAt,Z6M,Instr.sureAddr,fieldPlace,VH,Z7L]
def P6(N:RelG c B G s a w h g)(K:holds s<|ZK c C){T x f k X}(l:qV c g C T x f=J (k,X))(R:∀e∈X,∃z,eval s e=J z)d:
  Has c B s w h (λp=>a.tmps[p]?) d k (Instr.fieldAt T (a.eval x) f):=by
 unfold qV at l;simp only[Z6a]at l;let⟨y,L,l⟩:=l;split at l;grind;rename_i M;split at l;rename_i W D;obtain⟨rfl,rfl⟩:=l;obtain⟨t,rfl,⟨v,hv,S,⟨b,P,ty,A,rfl,_⟩⟩,_⟩:=(Q4 N K D rfl).resolve_left Z1;rw[S];exact⟨_,JM L M,b,A,Z1⟩;rename_i p q D;obtain⟨rfl,rfl⟩:=l;let⟨b,A,F⟩:=XD N K D rfl d;rw[F];exact⟨_,JM L M,b,A,rfl⟩;rename_i e q sh D;obtain⟨rfl,rfl⟩:=l;let⟨z,b,r,P,h0,A,F,H,Q,h5⟩:=XD N K D rfl d;rw[A];exact⟨_,JM L M,z,b,r,P,h0,Z1,F,H,Q,h5⟩;rename_i e sh D;obtain⟨rfl,rfl⟩:=l;let⟨u,Y,O⟩:=SQ N K D;let⟨z,Z⟩:=R _<|List.Mem.head _;simp[eval,Y,Z6s]at Z;generalize a.eval x=v at O;cases O with
 |ptr W b o P A F H Q=>
  exact⟨_,JM L M,.agg W,b,o,P,by simp[eval,Y,UA],rfl,A,F,H,Q⟩
 |_=>simp[UA]at Z
 rename_i p i j q kk D;obtain⟨rfl,rfl⟩:=l;let⟨n,r,A,F,H⟩:=XD N K D rfl d;rw[H];exact⟨_,JM L M,n,r,A,F,Z1⟩;grind
def Qn{P T a}(h:Vb P T=.sl a):P.underlying T=J (.slice a):=by
 grind [Vb]
def A3{P T a n}(h:Vb P T=.ar n a):P.underlying T=J (.array n a):=by
 grind [Vb]
def BU{x j z k}(d:YZ x j k=J z):∃l f q,x=.sl l/\j=.int f (q:Nat)/\l[q]?=J z/\I z.cells=k:=by
 unfold YZ at d;split at d;rename_i l f i;split at d;rename_i g;obtain⟨q,rfl⟩:=Z6q g;rw[Z6a]at d;let⟨n,h,a⟩:=d;split at a<;>first|(simp at a;subst n)|simp_all
 exact⟨l,f,q,rfl,rfl,h,by assumption⟩;grind;grind
def Rd.int_eq{G' a n v}(h:Rd w G' (.int a n) v):v=.int a n:=by cases h;rfl
def F1{T a}(f:c.P.underlying T=J (.slice a))(d:YN c.P a=xk){b o len cap k q}(h:q<len):
  (Instr.indexAt T (.slice (J ⟨b,o,U⟩) len cap)<|.int k q).run c.P w=.ok (.pointer<|J ⟨b,o+q*c.P.cellsOf a,U⟩) w:=by
 let⟨l,i,p,g,j,_⟩:=VD d;have n:(0:Int)<=q/\q<len:=Z0;simp[Instr.indexAt,asIntOf,Z6M f,h,VH g,j,Z7L]
def P8(X:RelG c B G s a w h g)(Y:holds s<|ZK c C){T x i k es}(r:qY c g C T x i=J (k,es))(R:∀e∈es,∃z,eval s e=J z)d:
  Has c B s w h (λp=>a.tmps[p]?) d k (Instr.indexAt T (a.eval x)<|a.eval i):=by
 unfold qY at r;split at r;rename_i A hT;have N:=Qn hT;simp only[Z6a]at r;let⟨⟨j,sj⟩,hj,r⟩:=r;let⟨y,hy,O⟩:=Wv X Y hj;have own:∀ {p} {pi:Option Nat},Ym g C x=SW p pi->KS c g p pi A j=J (k,es)->Has c B s w h (λp=>a.tmps[p]?) d k (Instr.indexAt T (a.eval x)<|a.eval i):=by
  intro p pi L F;unfold KS at F;simp only[Z6a]at F;let⟨⟨ty,e⟩,ho,F⟩:=F;split at F;rename_i W;let⟨W,f⟩:=W;simp at F;obtain⟨rfl,rfl⟩:=F;have a9:=XD X Y L (by cases pi<;>rfl) 0;let⟨xv,b9,a8⟩:=X.ib ho a9;let⟨z,H⟩:=R _<|List.Mem.head _;simp[eval,b9,hy,Z6s]at H;have c0:=H;obtain⟨l,ki,q,rfl,rfl,M,_⟩:=BU H;let⟨l',n,cap,d1,xs,b7,_,b1,hv,_⟩:=a8.elem c0;cases b7;rw[hv,O.int_eq];refine⟨_,F1 N f (Z6d.1 M).1,n,q,?_,⟨ki,hy⟩,by rw[Z6V,Z7Z]⟩;cases pi<;>exact b1;simp at F
 split at r;rename_i p L;exact own (pi:=U) L r;rename_i p q L;exact own (pi:=J q) L r;rename_i e sh L;split at r;rename_i f;simp at r;obtain⟨rfl,rfl⟩:=r;let⟨u,hu,S⟩:=SQ X Y L;let⟨z,H⟩:=R _<|List.Mem.head _;have a3:=H;simp[eval,hu,hy,Z6s]at H;obtain⟨l,ki,q,rfl,rfl,M,c1⟩:=BU H;rw[O.int_eq];generalize a.eval x=v at S;cases S with
 |nil a' cap hc=>simp at M
 |sl _ b o cap kk vs h1 h2 h3 h4 h5 h6=>
  have D:=h4 z<|Z6n M;have b6:kk=c.P.cellsOf A:=by rw[<-D.1,c1]
  subst b6;have a6:=(Z6d.1 M).1;have b8:q*c.P.cellsOf A+c.P.cellsOf A<=I l*c.P.cellsOf A:=by
   rw[<-Z7s];exact Z6T _ a6
  have a2:=Bu D;refine⟨_,F1 N f a6,z,b,o+q*c.P.cellsOf A,λi=>vs<|q*c.P.cellsOf A+i,a3,by rw[Z7Z],h3,by rw[a2];exact D.2,λi K=> ?_,λi u K=> ?_⟩;rw[a2,D.1]at K;rw[Z77];exact h5 _ Z0;rw[a2]at K;have b4:i<c.P.cellsOf A:=by rw[<-D.1];exact(Z6d.1 K).1
  exact h6 _ u (by rw[UO h4 M i b4];exact K)
 simp at r;simp at r;rename_i n A hT;have N:=A3 hT;split at r;simp at r;rename_i f;simp at f;simp only[Z6a]at r;let⟨⟨j,sj⟩,hj,r⟩:=r;let⟨y,hy,O⟩:=Wv X Y hj;have a4:∀ {p o b},a.eval x=.pointer (J ⟨b,o,U⟩)->h.bl p 0=J b->J (TK.pa p o j n<|c.P.cellsOf A,[E.ai (.c<|.agg<|List.replicate n<|.bool xk) j n 1 xw])=J (k,es)->Has c B s w h (λp=>a.tmps[p]?) d k (Instr.indexAt T (a.eval x)<|a.eval i):=by
  intro p o b a1 hb heq;simp at heq;obtain⟨rfl,rfl⟩:=heq;let⟨z,H⟩:=R _<|List.Mem.head _;simp[eval,hy,Z6s]at H;obtain⟨cs,ki,q,_,rfl,hq,_⟩:=Kl H;rw[a1,O.int_eq];let⟨dd,info,hd,K,hs,_⟩:=VD f;refine⟨_,?_,b,q,hb,⟨ki,hy⟩,hq,rfl⟩;simp[Instr.indexAt,asIntOf,Z6M N,hq,VH K,hs,Z7L,Instr.sureAddr]
 split at r;rename_i cs L;obtain⟨t,rfl,⟨v,hv,a1,⟨b,vs,ty,h1,rfl,_⟩⟩,_⟩:=(Q4 X Y L rfl).resolve_left (by rintro(⟨e,h⟩|h)<;>cases h);exact a4 a1 h1 r;rename_i p o L;let⟨b,h1,h2⟩:=XD X Y L rfl d;exact a4 h2 h1 r;rename_i e o sh L;simp at r;obtain⟨rfl,rfl⟩:=r;let⟨u,b,q0,vs,he,hv,a5,a7,a0,S⟩:=XD X Y L rfl d;let⟨z,H⟩:=R _<|List.Mem.head _;have a3:=H;simp[eval,he,hy,Z6s,Z6a]at H;let⟨cs,b3,H⟩:=H;obtain⟨b8,rfl⟩:=KG b3;obtain⟨d0,ki,q,b2,rfl,hq,c7,b0⟩:=Kl H;cases b2;simp at b0;rw[hv,O.int_eq];let⟨dd,info,hd,K,hs,_⟩:=VD f;have c2:q*c.P.cellsOf A+c.P.cellsOf A<=n*c.P.cellsOf A:=by
  rw[<-Z7s];exact Z6T _ hq
 have Z:∀i x,z.pc[i]?=J x->i<c.P.cellsOf A/\u.pc[o+q*c.P.cellsOf A+i]?=J x:=by
  intro i x Q;rw[<-b0]at Q;simp only[V.pc,Z6O]at Q;split at Q;rename_i b5;rw[Z6C,Z6O,Z6k Z0,Z6C]at Q;exact⟨b5,by rw[<-Q];congr 1;omega⟩;cases Q
 refine⟨_,?_,z,b,q0+(o+q*c.P.cellsOf A),λi=>vs<|o+q*c.P.cellsOf A+i,a3,rfl,a5,?_,?_,?_⟩;simp[Instr.indexAt,asIntOf,Z6M N,hq,VH K,hs,Z7L,Instr.sureAddr,Z77];intro x Q;let⟨i,K⟩:=Z6A Q;exact a7 x<|Z6n (Z i x K).2;intro i K;have:=Z i _<|Z6b K;rw[Z77];exact a0 _ (Z6d.1 this.2).1;intro i x Q;exact S _ x (Z i x Q).2;simp at r;simp at r
theorem yH{x z}(h:YS x=J z):z.aj=xk:=(S1 h).2
def CH{f x k v z}(h:Tl f x k v=J z):∃id g j a d,x=.mp id g j/\z=.mp id a d:=by
 unfold Tl at h;grind
theorem KA:∀e x,e.dg=xk->eval s e=J x->x.aj=xk
 |.c v,x,h,g=>by simp[eval,Z6c]at g;subst g;exact h
 | .m t i,x,_,g=>by
   simp[eval]at g;split at g;rw[Z6a]at g;let⟨y,_,f⟩:=g;exact yH f
   grind
 | .cb op a b,x,_,g=>by
   simp[eval,Z6a]at g;let⟨y,_,z,_,f⟩:=g;cases y<;>cases z<;>cases op<;>simp only[X2]at f<;>(try split at f)<;>(try simp[Z6c]at f)<;>(try subst f)<;>first|rfl|simp at f
 | .gz n a b,x,_,g=>by
   simp[eval,Z6a]at g;let⟨y,_,z,_,f⟩:=g;cases y<;>cases z<;>simp[TS]at f<;>(try simp[Z6c]at f)<;>(try subst f)<;>first|rfl|simp at f
 | .un op a,x,_,g=>by
   simp[eval,Z6a]at g;let⟨y,_,f⟩:=g;cases y<;>cases op<;>simp[Tx]at f<;>(try simp[Z6c]at f)<;>(try subst f)<;>first|rfl|simp at f
 | .bo k a,x,_,g=>by
   simp[eval,Z6a]at g;let⟨y,_,f⟩:=g;cases y<;>simp[RA]at f<;>(try simp[Z6c]at f)<;>(try subst f)<;>first|rfl|simp at f
 | .len a,x,_,g=>by
   simp[eval,Z6a]at g;let⟨y,_,f⟩:=g;cases y<;>simp[SJ]at f<;>(try simp[Z6c]at f)<;>(try subst f)<;>first|rfl|simp at f
 | .mn a b,x,_,g=>by
   simp[eval,Z6a]at g;let⟨y,_,z,_,f⟩:=g;cases y<;>cases z<;>simp[SM]at f<;>(try simp[Z6c]at f)<;>(try subst f)<;>first|rfl|simp at f
 | .mx a b,x,_,g=>by
   simp[eval,Z6a]at g;let⟨y,_,z,_,f⟩:=g;cases y<;>cases z<;>simp[SL]at f<;>(try simp[Z6c]at f)<;>(try subst f)<;>first|rfl|simp at f
 | .ep r a k v,x,_,g=>by
   simp[eval,Z6a]at g;let⟨y,_,z,_,u,_,f⟩:=g;obtain⟨_,_,_,_,_,_,rfl⟩:=CH f;rfl
 | .fe a,x,_,g=>by
   simp[eval,Z6a]at g;let⟨y,_,f⟩:=g;cases y<;>simp[TZ]at f<;>(try simp[Z6c]at f)<;>(try subst f)<;>first|rfl|simp at f
 | .ga a,x,_,g=>by
   simp[eval,Z6a]at g;let⟨y,_,f⟩:=g;cases y<;>simp[J6]at f<;>(try simp[Z6c]at f)<;>(try subst f)<;>first|rfl|simp at f
 | .ac a o,x,_,g=>by
   simp[eval,Z6a,Ya]at g;grind [yH]
 | .ig a j p k,x,_,g=>by
   simp[eval,Z6a]at g;let⟨y,_,z,_,u,_,f⟩:=g;unfold Rf at f;split at f;split at f;simp[Z6c]at f;subst f;rfl;grind;grind
 | .gj a j k,x,_,g=>by
   simp[eval,Z6a]at g;let⟨y,_,z,_,f⟩:=g;unfold Qj at f;split at f;split at f;simp[Z6c]at f;subst f;rfl;grind;grind
 | .ct a b k,x,_,g=>by
   simp[eval,Z6a]at g;let⟨y,_,z,_,f⟩:=g;unfold So at f;split at f;split at f;simp[Z6c]at f;subst f;rfl;grind;grind
 | .gl a i o b,x,_,g=>by
   simp[eval,Z6a]at g;let⟨y,_,z,_,u,_,f⟩:=g;unfold Sf at f;split at f;split at f;rw[Z6a]at f;let⟨q,_,f⟩:=f;split at f;simp[Z6c]at f;subst f;rfl;grind;grind;grind
 | .mk z n,x,_,g=>by
   simp[eval,Z6a]at g;let⟨y,_,f⟩:=g;unfold J9 at f;split at f;split at f;simp[Z6c]at f;subst f;rfl;grind;grind
 | .lit l,x,_,g=>by
   simp[eval,Z6f]at g;let⟨y,_,f⟩:=g;subst f;rfl
 | .aj a,x,_,g=>by
   grind [eval,Option.bind_eq_some_iff,yH]
 | .ite d a b,x,h,g=>by
   simp[E.dg,Z6l]at h;simp[eval,Z6a]at g;let⟨y,_,f⟩:=g;unfold RO at f;split at f;exact KA a x h.1 f;exact KA b x h.2 f;grind
 |.s t,x,h,g=>Z5C
 |.mm t i n,x,h,g=>Z5C
 |.ext a i,x,h,g=>Z5C
 |.bc a i k,x,h,g=>Z5C
 |.bp a o n,x,h,g=>Z5C
 |.ai a i n k ag,x,h,g=>Z5C
 |.dk a i n k b,x,h,g=>Z5C
 |.ag l,x,h,g=>Z5C
 |.au a,x,h,g=>Z5C
 |.dy a,x,h,g=>Z5C
 |.sz a n,x,h,g=>Z5C
 |.fl a,x,h,g=>Z5C
 |.kj a,x,h,g=>Z5C
end
end Vm
namespace Vm
open Go
open Go.RowKit (Below)
section
variable {c:Ctx}{B:Nat}{G:Nat->Prop}{s:St}{a:Act}{w:World}{h:GH}{g:Gam}{C:ZI}
theorem D6{e x}(hx:eval s (Li e)=J x):eval s e=J x/\x.aj=xk:=by
 unfold Li at hx;split at hx;grind [KA];simp[eval,Z6a]at hx;let⟨y,f,a⟩:=hx;obtain⟨rfl,d⟩:=S1 a;simp_all
theorem Fv{x z n}(a:Vu x n=J z):x=z/\I z.cells=n/\∀l,z≠.am l:=by
 unfold Vu at a;split at a
 .rename_i d;cases x<;>simp at a<;>first|(subst a;exact⟨rfl,d,Z1⟩)|(simp at a;done)
 grind
theorem D7{x:V}(h:x.aj=xk):∀l,x≠.am l:=by
 grind [V.aj]
theorem UY{x:V}(h:x.aj=xk):x.cells=[x]:=by
 cases x<;>first|rfl|simp[V.aj]at h
theorem Z0S{e n x}(hx:eval s (A2 e n)=J x):eval s e=J x/\I x.cells=n/\∀l,x≠.am l:=by
 unfold A2 at hx;split at hx
 .rename_i a;refine⟨hx,?_⟩;cases e<;>simp[E.nw,Z71,Z6l]at a<;>first|(cases a;done)|skip
  grind [eval,Option.some.injEq,V.cells];subst a;simp[eval,Z6a]at hx;let⟨y,_,d⟩:=hx;obtain⟨f,rfl⟩:=KG d;grind [V.cells];rename_i l;let⟨u,k⟩:=a;simp[eval,Z6f]at hx;obtain⟨t,g,rfl⟩:=hx;let⟨f,j⟩:=Ud g;have p:∀y∈t,y.aj=xk:=by
   intro y d;let⟨i,o⟩:=Z6A d;have r:i<I l:=by have:=(Z6d.1 o).1;omega
   let⟨z,q,h⟩:=j i l[i] Z1;rw[o]at q;cases q;exact KA _ _ Z5i h
  simp_all[Tb,V.cells,SA];grind [eval,Option.bind_eq_some_iff,Fv]
 simp[eval,Z6a]at hx;let⟨y,d,f⟩:=hx;obtain⟨rfl,j⟩:=Fv f;simp_all
theorem zd{ag n e x}(hx:eval s (WL ag n e)=J x):eval s e=J x/\(∀l,x≠.am l)/\(ag=xk->I x.cells=n)/\(ag=xw->x.aj=xk):=by
 grind [WL,Z0S,D6,D7]
def jD{P T}(j:(P.underlying T).isSome=xk)(f:P.cellsOf T≠0){vs o}(p:o+P.cellsOf T<=vs.size):
  (part T vs o).run P w=.ok (if Y9 P T then .agg (vs.extract o<|o+P.cellsOf T)else vs.getD o xy) w:=by
 let⟨i,l,t⟩:=yE f;have a:YN P T=xk:=by simp[YN,j,l]
 let⟨d,u,r,n,q,g⟩:=VD a;have h:o<vs.size:=Z0;cases k:Y9 P T with
 |true=>simp_all[part,VH]
 |false=>simp_all[part,Z6g]
def Rd.part{G'}{cs:List V}{vs:Array Value}(g:vs.size=I cs)(h2:∀c∈cs,c.aj=xk)(h:∀i c,cs[i]?=J c->Rd w G' c (vs.getD i xy)){o n}(f:o+n<=I cs):
  Rd w G' (.agg<|(cs.drop o).take n) (.agg<|vs.extract o<|o+n):=by
 refine .agg _ _ Z5j Z5h λi y a=> ?_;rw[Z6O]at a;split at a;rename_i d;have j:(vs.extract o<|o+n).getD i xy=vs.getD (o+i) xy:=by
  simp[Z9t];rw[Z6k Z0]
 simp_all;grind
def BY{x z}(a:SF x=J z):∃d,x=.agg d/\z=.agg d:=by
 unfold SF at a;split at a;simp at a;exact⟨_,rfl,a.symm⟩;grind
def P7(hr:RelG c B G s a w h g)(Y:holds s<|ZK c C){T x f k Q}(n:qW c g C T x f=J (k,Q))(N:∀e∈Q,∃z,eval s e=J z)d:
  Has c B s w h (λp=>a.tmps[p]?) d k (Instr.field T (a.eval x) f):=by
 unfold qW at n;simp only[Z6a]at n;let⟨y,hf,n⟩:=n;split at n;grind;rename_i W;simp only[Z6f,Z6t]at n;obtain⟨⟨e,sh⟩,he,rfl,rfl⟩:=n;obtain⟨fs,D,hu,a0,H,rfl⟩:=Bl hf;let⟨u,A,r⟩:=Wv hr Y he;let⟨z,j⟩:=N _<|List.Mem.head _;generalize a.eval x=v at r;let⟨i,hi,hs⟩:=yE W;have t:(c.P.underlying D.type).isSome=xk:=by simp[YN,Z6l]at H;exact H.1
 cases F:Y9 c.P D.type with
 |true=>
  rw[F]at j;simp[eval,A,Z6s,Z6a]at j;let⟨q,O,j⟩:=j;obtain⟨X,rfl,rfl⟩:=BY O;obtain⟨l,rfl⟩:=KG j;cases r with
  |agg _ vs L R M=>
   refine⟨.agg _,?_,.agg _,?_,Rd.part L R M l⟩;have:=jD (w:=w) (P:=c.P) t W (vs:=vs) (o:=D.offset) (by rw[L];exact l);simp_all[Instr.field,Z6M,asAgg];simp only[Z7m,eval,A,Z6s,SF,Ug];rw[Z6k l];rfl
 |false=>
  rw[F]at j;simp[Z73,eval,A,Z6s,Z6a]at j;let⟨q,O,j⟩:=j;obtain⟨X,rfl,rfl⟩:=BY O;have K:=Bx j;cases r with
  |agg _ vs L R M=>
   have a2:D.offset<vs.size:=by rw[L];exact(Z6d.1 K).1
   refine⟨vs.getD D.offset xy,?_,z,?_,M _ _ K⟩;let⟨d',i',Z,a1,a3,S⟩:=VD (P:=c.P) (T:=D.type) Z0;simp_all[Instr.field,Z6M,asAgg,part,Z6g];simp_all[Z73,eval,Z6s,SF]
def P9(Z:RelG c B G s a w h g)(W:holds s<|ZK c C){T x i k Q}(F:qX c g C T x i=J (k,Q))(L:∀e∈Q,∃z,eval s e=J z)d:
  Has c B s w h (λp=>a.tmps[p]?) d k (Instr.index T (a.eval x)<|a.eval i):=by
 unfold qX at F;split at F;rename_i n t hT;have A:=A3 hT;split at F;grind;rename_i l;simp at l;simp only[Z6a,Z6f,Z6t]at F;obtain⟨⟨e,sh⟩,he,⟨j,sj⟩,hj,rfl,rfl⟩:=F;let⟨u,hu,H⟩:=Wv Z W he;let⟨y,hy,N⟩:=Wv Z W hj;let⟨z,O⟩:=L _<|List.Mem.head _;have K:=O;simp[eval,hu,hy,Z6s]at O;obtain⟨cs,ki,q,rfl,rfl,M,Y,f⟩:=Kl O;rw[N.int_eq];generalize a.eval x=v at H;let⟨dd,info,hd,X,hs,r⟩:=VD l;have a0:q*c.P.cellsOf t+c.P.cellsOf t<=n*c.P.cellsOf t:=by
  rw[<-Z7s];exact Z6T _ M
 cases H with
 |agg _ vs R h2 S=>
  cases o:Y9 c.P t with
  |false=>
   rw[o]at f K;have D:q*c.P.cellsOf t<vs.size:=by rw[R];exact(Z6d.1 f).1
   rw[hs]at D f;refine⟨vs.getD _ xy,?_,z,Z0,S _ _ f⟩;simp[Instr.index,asIntOf,Z6M A,M,VH X,part,r,o,D,Z6g]
  |true=>
   rw[o]at f K;simp at f;subst f;refine⟨.agg _,?_,_,Z0,Rd.part R h2 S Z0⟩;rw[hs];simp[Instr.index,asIntOf,Z6M A,M,VH X,part,r,o]
 grind
def Fe{k l}(a:Xy k l=xk):∀x∈l,I x.cells=k:=λx d=>by
 have:=Z6y.1 a x d;simp_all
def M1{P:Program}{T a}(h:P.underlying T=J (.slice a)):P.elem T=a:=by
 simp[Program.elem,h]
def Rd.sliced{G' l o len cap}(hx:Rd w G' (.sl l)<|.slice o len cap){k p q}(D:Xy k l=xk)(F:p<=q)(y:q<=I l):
  q<=cap/\len=I l/\Rd w G' (.sl<|(l.take q).drop p) (sliced o p q cap k):=by
 cases hx with
 |nil _ _ C=>
  simp at y;subst y;have t:p=0:=Z0;subst t;exact⟨Z0,rfl,by simp;exact .nil _ _ C⟩
 |sl _ b o _ a G H K z u A B=>
  refine⟨Z0,rfl,?_⟩;unfold Go.sliced;by_cases h:p=q;subst h;have:(l.take p).drop p=[]:=by
   rw[List.drop_eq_nil_of_le];simp;omega
  rw[this,Z80];exact .nil _ _ Z0;have r:cap≠p:=Z0;have n:∃x,l[p]?=J x:=⟨_,Z6b Z0⟩;let⟨x,hx⟩:=n;have j:a=k:=by rw[<-(u x<|Z6n hx).1,Fe D x Z5h]
  subst j;have d:I ((l.take q).drop p)=q-p:=Z5j;simp[Z6h r,Z8i,Z7L];rw[<-d];have f:Vm.flat ((l.take q).drop p)=((Vm.flat l).take<|q*a).drop (p*a):=by
   rw[Mg (k:=a) Z5h,Mj u]
  refine .sl _ b _ _ a (λi=>G<|p*a+i) Z0 Z0 z Z5h (λi g=> ?_) λi c g=> ?_;rw[Z77];refine A _ ?_;have:(q-p)*a+p*a<=I l*a:=by rw[<-Nat.add_mul];exact Z6T _ Z0
  rw[d]at g;omega;rw[f,Z6C,Z6O]at g;split at g;exact B _ _ g;simp at g
def Z0a{T}(g:c.P.underlying T=J (.slice<|c.P.elem T)){v lo a f d k}:
  Has c B s w h f d k (Instr.sliceAt T v lo a U)=Has c B s w h f d k (Instr.slice T v lo a U):=by
 simp_all[Has,run_sliceAt_slice]
theorem LN{P T}(a:YN P T=xk)w:(Go.sizeOf T).run P w=.ok (P.cellsOf T) w:=by
 grind [VD,VH]
def Z0w{k x y z u}(a:Rf k x y z=J u):∃l f g p q,x=.sl l/\y=.int f (p:Nat)/\z=.int g (q:Nat)/\p<=q/\q<=I l/\Xy k l=xk/\u=.sl ((l.take q).drop p):=by
 unfold Rf at a;split at a;rename_i l f p g q;split at a;rename_i j;let⟨d,h,n,o⟩:=j;obtain⟨p,rfl⟩:=Z6q d;obtain⟨q,rfl⟩:=Z6q<|Int.le_trans d h;grind;grind;grind
def Z0x{k x y u}(a:Qj k x y=J u):∃l d p,x=.sl l/\y=.int d (p:Nat)/\p<=I l/\Xy k l=xk/\u=.sl (l.drop p):=by
 unfold Qj at a;split at a;rename_i l d p;split at a;rename_i h;let⟨f,j,g⟩:=h;obtain⟨p,rfl⟩:=Z6q f;simp at a;exact⟨l,d,p,rfl,rfl,Z0,g,a.symm⟩;grind;grind
def Rd.nx{G' l v}(hx:Rd w G' (.sl l) v):∃o len cap,v=.slice o len cap:=by
 cases hx<;>exact⟨_,_,_,rfl⟩
def Pm(S:RelG c B G s a w h g)(R:holds s<|ZK c C){T x lo Y k es}(O:ji c g C T x lo Y=J (k,es))(X:∀e∈es,∃z,eval s e=J z)d:
  Has c B s w h (λp=>a.tmps[p]?) d k (Instr.sliceAt T (a.eval x) (lo.map a.eval) (Y.map a.eval) U):=by
 unfold ji at O;split at O;rename_i el hT;have M:=Qn hT;have W:c.P.underlying T=J (.slice<|c.P.elem T):=by rw[M1 M];exact M
 split at O;rename_i a4;simp only[Z6a,Z6f,Z6t]at O;obtain⟨⟨e,sh⟩,he,l,D,e',A,rfl,rfl⟩:=O;let⟨u,hu,n⟩:=Wv S R he;let⟨z,y⟩:=X _<|List.Mem.head _;rw[Z0a W];generalize a.eval x=v at n;cases Y with
 |some hh=>
  simp only[qy,Z6f]at A;obtain⟨⟨f,sf⟩,hf,rfl⟩:=A;let⟨y2,a1,Q⟩:=Wv S R hf;have L:=y;simp[eval,hu,a1,Z6s,Z6a]at y;let⟨y1,r,y⟩:=y;obtain⟨ll,ka,kb,p,q,rfl,rfl,rfl,Z,hq,K,rfl⟩:=Z0w y;obtain⟨o,len,cap,rfl⟩:=n.nx;let⟨a0,N,j⟩:=n.sliced K Z hq;refine⟨_,?_,_,L,j⟩;cases lo with
  |some a2=>
   simp only[Jo,Z6f]at D;obtain⟨⟨f1,a3⟩,F,rfl⟩:=D;let⟨y3,t,H⟩:=Wv S R F;rw[r]at t;cases t;simp;rw[Q.int_eq,H.int_eq];simp_all[run_slice_lh,LN,Result.andThen]
  |none=>
   simp[Jo,Z6c]at D;subst D;simp[eval,Z6c,V.int.injEq]at r;have a5:p=0:=Z0;simp;rw[Q.int_eq];grind [run_slice_h,LN,Result.andThen]
 |none=>
  simp[qy,Z6c]at A;subst A;have L:=y;simp[eval,hu,Z6s,Z6a]at y;let⟨y1,r,y⟩:=y;obtain⟨ll,ka,p,rfl,rfl,hq,K,rfl⟩:=Z0x y;obtain⟨o,len,cap,rfl⟩:=n.nx;let⟨a0,N,j⟩:=n.sliced K hq Z0;rw[Z7P]at j;refine⟨_,?_,_,L,j⟩;cases lo with
  |some a2=>
   simp only[Jo,Z6f]at D;obtain⟨⟨f1,a3⟩,F,rfl⟩:=D;let⟨y3,t,H⟩:=Wv S R F;rw[r]at t;cases t;simp;rw[H.int_eq];simp_all[run_slice_l,LN,Result.andThen]
  |none=>
   simp[Jo,Z6c]at D;subst D;simp[eval,Z6c,V.int.injEq]at r;grind [run_slice_all,LN,Result.andThen]
 grind;grind
end
end Vm
namespace Vm
open Go
open Go.RowKit (Below)
def GH.fo(h:GH)(d i n:Nat):GH:= {F:=h.F,bl:=λt j=>if t=d then(if j=i then J n else U)else h.bl t j,K:=h.K}
def GH.ow(h:GH)(n:Nat):GH:= {F:=λb=>h.F b\/b=n,bl:=h.bl,K:=h.K}
section
variable {c:Ctx}{B:Nat}{G:Nat->Prop}{s:St}{a:Act}{w w':World}{h:GH}{g:Gam}{C:ZI}
def Rv(a:Ok B G w h)(d:w.grownBy w' U):=(Z6r B w).grown d a.V λk f=>by cases f
def LZ(a:Ok B G w h)(l:w.grownBy w' U)d i{n}(z:xz (xj w)<=n)(o:n<xz (xj w')):
  Ok B G w' (h.fo d i n)/\Step B [d] [d] [] w w' h (h.fo d i n):=by
 have k:=l.size
 refine⟨⟨Z6H a.V k,λb f=>Z6o (a.cd b f) k,a.dl,a.gs,λt j b f=> ?_,λt j u q b f g=> ?_,λb f=>Z6o (a.cw b f) k,λt j b f p=> ?_,a.fw⟩,
  Rv a l,λb f _=>l.block b f Z1,λb f=>f,λt A _=> ?_,λt A=> ?_,Z1,rfl⟩
 simp[GH.fo]at f;split at f;split at f;simp at f;subst f;exact⟨Z6H a.V z,o,λy=>by have:=a.cd _ y;omega⟩;cases f;let⟨r,C,x⟩:=a.ax t j b f;exact⟨r,Z0,x⟩
 .simp[GH.fo]at f g;split at f<;>split at g;simp_all
  .split at f<;>first|(cases f;done)|skip
   simp at f;have:=(a.ax u q b g).2.1;omega
  .split at g<;>first|(cases g;done)|skip
   simp at g;have:=(a.ax t j b f).2.1;omega
  exact a.inj t j u q b f g
 simp[GH.fo]at f;split at f;split at f;simp at f;have:=a.cw _ p;omega;cases f;exact a.cl t j b f p;simp_all[GH.fo];simp_all[GH.fo]
def Z0P(a:Ok B G w h)(k:w.grownBy w' U)ps rb{n}(q:xz (xj w)<=n)(r:n<xz (xj w')):
  Ok B G w' (h.ow n)/\Step B ps rb [] w w' h (h.ow n):=by
 have f:=k.size
 refine⟨⟨Z6H a.V f,λb d=> ?_,λb d=> ?_,λb d=>.inl<|a.gs b d,λt j b d=> ?_,a.inj,λb d=>Z6o (a.cw b d) f,a.cl,λb d=> ?_⟩,
  Rv a k,λb d _=>k.block b d Z1,λb d=>.inl d,λt u _=>rfl,λt u=>rfl,Z1,rfl⟩
 obtain d|rfl:=d;exact Z6o (a.cd b d) f;omega;obtain d|rfl:=d;exact a.dl b d;exact .inr<|Z6H a.V q;let⟨l,x,o⟩:=a.ax t j b d;refine⟨l,Z0,λg=> ?_⟩;obtain g|rfl:=g;exact o g;omega;obtain d|rfl:=d;exact a.fw b d;exact .inr λp=>by have:=a.cw _ p;omega
def jH(f:Ok B G w h)(a:w.grownBy w' U){G'}(d:∀b,G' b->b<xz (xj w)):Same G' w w':=λb g=>a.block b Z5i Z1
def M8(a:Ok B G w h)sh:∀b,h.ext sh b->b<xz (xj w):=by
 intro b d;obtain d|⟨p,_,i,f⟩:=d;exact a.cd b d;exact(a.ax p _ b f).2.1
def yZ{α β:Type}{f}:∀ {l:List α} {r:List β},l.mapM f=J r->I r=I l/\∀(i:Nat) v,l[i]?=J v->∃x,r[i]?=J x/\f v=J x
 | [],r,a=>by
   simp at a;subst a;exact⟨rfl,Z1⟩
 |y::l,r,a=>by
  simp[Z6a,Z6c]at a;obtain⟨x,k,n,g,rfl⟩:=a;let⟨h,j⟩:=yZ g;refine⟨by simp[h],λi v d=> ?_⟩;cases i with
  |zero=>simp at d;subst d;exact⟨x,Z1,k⟩
  |succ i=>simpa using j i v Z5E
def Ah{P T d}(a:zeroCells P T=J d):∃i z,P.info? T=J i/\i.zero=J z/\z.cells.size=I d/\∀(j:Nat) v,z.cells[j]?=J v->∃x,d[j]?=J x/\WP v=J x:=by
 unfold zeroCells at a;simp[Z6a]at a;let⟨z,⟨i,l,g⟩,f⟩:=a;let⟨h,k⟩:=yZ f;simp_all
def LO{P T i z}(a:P.info? T=J i)(d:i.zero=J z)w:(zeroValue T).run P w=.ok z w:=by
 simp[zeroValue,typeInfo,a,d]
def jC{P T}v w:(newVar T v).run P w=.ok ⟨xz<|xj w,0,U⟩ (w.alloc<|.cells v.cells T):=by
 rfl
def Z1G(x:V):CK:=match x with|.sl _=>CK.nil|_=>.fz
def Z1L{P o v x}(a:WP v=J x):RelC P B s w h o (Z1G x) (.c x) v:=by
 unfold WP at a;split at a<;>first
  |(simp at a;subst a;first|exact⟨_,rfl,rfl,.int _ _⟩|exact⟨_,rfl,rfl,.bool _⟩|exact⟨_,rfl,rfl,.str _⟩|exact⟨rfl,rfl⟩|exact⟨_,rfl,rfl,.lf⟩|exact⟨_,rfl,rfl,.li⟩|exact⟨_,rfl,rfl,.lj⟩)
  | (split at a<;>first
    | (rename_i d
       simp at a;subst a;rw[Z78 d.1,Z78 d.2];exact⟨_,rfl,rfl,.fn _⟩)
    |simp at a)
  |simp at a
def P0(p:Ok B G w h){T k A}(f:qP c T=J (k,A))K d:
  ∃v w',(Instr.alloc T xk<|.tuple #[]).run c.P w=.ok v w'/\PRes c B G s w h K d k v w':=by
 unfold qP at f;simp only[Z6a]at f;let⟨N,H,f⟩:=f;split at f;grind;simp at f;obtain⟨rfl,rfl⟩:=f;let⟨i,z,F,t,r,a⟩:=Ah H;have D:=Z7o w (.cells z.cells T) U;let⟨g,q⟩:=LZ p D d 0 (n:=xz<|xj w) Z0 Z1;refine⟨.pointer<|J ⟨xz<|xj w,0,U⟩,_,?_,_,q,g,?_⟩;simp[Instr.alloc,LO F t,jC];refine⟨xz<|xj w,z.cells,T,by simp[GH.fo],rfl,Z6u w _,Z5i,λj L u=> ?_⟩;simp at u;obtain⟨x,y,rfl⟩:=u;have o:j<z.cells.size:=by rw[r];exact(Z6d.1 y).1
 let⟨M,l,C⟩:=a j z.cells[j] Z1;rw[y]at l;cases l;have:z.cells.getD j xy=z.cells[j]:=by simp[o]
 rw[this];exact Z1L C
def P4(O:RelG c B G s a w h g)(hC:holds s<|ZK c C){T x k es}(l:qT c g C T x=J (k,es))(t:∀e∈es,∃z,eval s e=J z)tm d:
  ∃v w',(Instr.box T<|a.eval x).run c.P w=.ok v w'/\PRes c B G s w h tm d k v w':=by
 unfold qT at l;split at l;rename_i e0 hk;split at l;rename_i a0;let⟨y,hy,L⟩:=SQ O hC hk;have hg:=Z7o w (.cells (a.eval x).cells T) U;let⟨K,Z⟩:=LZ O.ok hg d 0 (n:=xz<|xj w) Z0 Z1;have hF:=jH O.ok hg O.ok.cd;refine⟨.pointer _,_,by rfl,_,Z,K,?_⟩;generalize a.eval x=v at*;split at l;rename_i o;simp[o,Z6c,Z6t]at l;obtain⟨rfl,rfl⟩:=l;let⟨z,Q⟩:=t _<|List.Mem.head _;let⟨q,S,N,_⟩:=zd Q;rw[hy]at q;cases q;let⟨M,Y,f⟩:=L.cells S;refine⟨xz<|xj w,v.cells,T,by simp[GH.fo],rfl,Z6u w _,Z5i,λj ck p=> ?_⟩;simp at p;obtain⟨R,A,rfl⟩:=p;have D:j<c.P.cellsOf T:=by simpa using(Z6d.1 A).1
 have X:R=j:=by simpa[D]using A.symm
 subst X;have H:R<I y.cells:=by rw[N rfl];exact D
 have u:=Z6b H;refine⟨y.cells[R],?_,Z5i,(f R _ u).F.keep hF λb W=>W⟩;have a1:y.pc=y.cells:=by cases y<;>first|rfl|exact absurd rfl _
 simp_all[eval,Z6s,Ya,YS,Z6E];rename_i o;have r:Y9 c.P T=xw:=by simpa using o
 simp[r,Z6c,Z6t]at l;obtain⟨rfl,rfl⟩:=l;let⟨z,Q⟩:=t _<|List.Mem.head _;let⟨q,S,_,N⟩:=zd Q;rw[hy]at q;cases q;let⟨M,Y,f⟩:=L.cells S;rw[UY<|N rfl]at M f;refine⟨xz<|xj w,v.cells,T,by simp[GH.fo],rfl,Z6u w _,Z0,λj ck p=> ?_⟩;cases j with
 |zero=>
  simp at p;subst p;exact⟨y,Q,N rfl,(f 0 y rfl).F.keep hF λb W=>W⟩
 |succ j=>simp at p
 grind;grind
def F6 off:∀(l:List<|Value×Nat) (a:Array Value) m,(∀i q,l[i]?=J q->q.2=m+i)->off+m+I l<=a.size->
  (l.foldl (λa (c,j)=>a.setIfInBounds (off+j) c) a).size=a.size/\
  (∀x,x<off+m\/off+m+I l<=x->(l.foldl (λa (c,j)=>a.setIfInBounds (off+j) c) a)[x]?=a[x]?)/\
  ∀i q,l[i]?=J q->(l.foldl (λa (c,j)=>a.setIfInBounds (off+j) c) a)[off+m+i]?=J q.1
 | [],a,m,_,_=>Z1
 | (v,j)::l,a,m,d,h=>by
   have r:=d 0 _ rfl;subst r;have g:∀i q,l[i]?=J q->q.2=(j+1)+i:=λi q f=>by
    have:=d (i+1) q Z5h;omega
   simp at h;let⟨o,k,p⟩:=F6 off l (a.setIfInBounds (off+j) v) _ g Z5j;simp only[Z7C];refine⟨by rw[o];simp,λx n=> ?_,λi q f=> ?_⟩;rw[k x (by simp at n;omega),Z8g (by simp at n;omega)];cases i with
   |zero=>
    simp at f;subst f;rw[Z7Z,k _ Z0];have:off+j<a.size:=Z0;simp[this]
   |succ i=>
    have:=p i q Z5h;rw[show off+j+(i+1)=off+(j+1)+i from by omega];exact this
def Z0k off(v:Value)(cs:Array Value)(k:off+v.cells.size<=cs.size):
  (v.cells.zipIdx.foldl (λcs (c,j)=>cs.setIfInBounds (off+j) c) cs).size=cs.size/\
  (∀x,x<off\/off+v.cells.size<=x->(v.cells.zipIdx.foldl (λcs (c,j)=>cs.setIfInBounds (off+j) c) cs)[x]?=cs[x]?)/\
  ∀i,i<v.cells.size->(v.cells.zipIdx.foldl (λcs (c,j)=>cs.setIfInBounds (off+j) c) cs)[off+i]?=v.cells[i]? :=by
 have p:∀i q,v.cells.zipIdx.toList[i]?=J q->v.cells[i]?=J q.1/\q.2=0+i:=by
  intro i q d;rw[Z7n,Array.getElem?_zipIdx,Z6f]at d;obtain⟨u,n,rfl⟩:=d;exact⟨n,Z0⟩
 have a:I v.cells.zipIdx.toList=v.cells.size:=Z1;rw[<-Array.foldl_toList];let⟨f,g,h⟩:=F6 off v.cells.zipIdx.toList cs 0 Z1 (by rw[a];omega);refine⟨f,λx o=>g x (by rw[a];omega),λi d=> ?_⟩;have l:v.cells.zipIdx.toList[i]?=J (v.cells[i],0+i):=by
  rw[Z7n];simp
 have:=h i _ l;rw[Z7Z]at this;rw[this];simp
def ye place:∀parts a,(∀p∈parts,∃off,place p.1=J (off,p.2.cells.size)/\off+p.2.cells.size<=a.size)->
  ∃R,Instr.fill place a parts=J R/\R.size=a.size/\
   (∀x,(∀p∈parts,∀off n,place p.1=J (off,n)->x<off\/off+n<=x)->R[x]?=a[x]?)/\
   ∀pre p f,parts=pre++p::f->∀off,place p.1=J (off,p.2.cells.size)->(∀q∈f,∀o n,place q.1=J (o,n)->off+p.2.cells.size<=o\/o+n<=off)->∀j,j<p.2.cells.size->R[off+j]?=p.2.cells[j]?
 | [],a,_=>⟨a,rfl,rfl,Z1,Z1⟩
 | (i,v)::parts,a,g=>by
   let⟨off,d,h⟩:=g (i,v) Z1;simp only at d h;let⟨C,z,D⟩:=Z0k off v a h;let⟨R,F,B,k,A⟩:=ye place parts (v.cells.zipIdx.foldl (λa (c,j)=>a.setIfInBounds (off+j) c) a) (λp l=>Z5i);refine⟨R,?_,Z0,λx u=> ?_,λpre p f l w r t j G=> ?_⟩;have:¬(off+v.cells.size>a.size):=Z0;simp[Instr.fill,d];grind;rw[k x λp l=>u p (by simp[l])];exact z x<|u (i,v) Z1 off _ d;obtain _|⟨y,pre⟩:=pre;grind;grind
end
end Vm
namespace Vm
open Go
open Go.RowKit (Below)
def YW:List (CK×E)->List Nat->Nat->Option Nat
 | [],_,_=>U
 |(.own _,_)::_,t::_,0=>J t
 |(.own _,_)::r,_::a,i+1=>YW r a i
 |(.own _,_)::_,[],_=>U
 |_::_,_,0=>U
 |_::r,a,i+1=>YW r a i
def Xx:List (CK×E)->Nat
 | []=>0
 |(.own _,_)::r=>Xx r+1
 |_::r=>Xx r
theorem jQ:∀ {l} {a g:List Nat} {r:List (CK×E)} {i:Nat},Xx l=I a->i<I l->YW (l++r) (a++g) i=YW l a i
 | [],_,_,_,_,_,f=>by simp at f
 | (k,e)::l,a,g,r,i,d,f=>by
   cases k with
   |own h=>
    obtain _|⟨t,a⟩:=a;simp[Xx]at d;simp[Xx,Z7N,Z9j]at d;cases i with
    |zero=>rfl
    |succ i=>simpa[YW]using jQ d Z5h
   |_=>
    simp[Xx]at d;cases i with
    |zero=>rfl
    |succ i=>simpa[YW]using jQ d Z5h
theorem jR:∀ {l} {a f:List Nat} {r:List (CK×E)} {i:Nat},Xx l=I a->YW (l++r) (a++f) (I l+i)=YW r f i
 | [],a,f,r,i,d=>by
   grind [Xx]
 | (k,e)::l,a,f,r,i,d=>by
   have g:(I l+1+i)=(I l+i)+1:=Z0;cases k with
   |own h=>
    obtain _|⟨t,a⟩:=a;simp[Xx]at d;simp_all[Xx,Z7N,Z9j,Z7x,YW,jR]
   |_=>
    simp[Xx]at d;simp[g];exact jR d
theorem Dj:∀l r,Xx (l++r)=Xx l+Xx r
 | [],r=>by simp[Xx]
 | (k,e)::l,r=>by
   cases k<;>simp[Xx,Dj l r]<;>omega
section
variable {c:Ctx}{B:Nat}{G:Nat->Prop}{s:St}{a:Act}{w w':World}{h:GH}{g:Gam}{C:ZI}
def BRel(c:Ctx)(B:Nat)(s:St)(a:Act)(w:World)(h:GH)(cs:List<|CK×E)(ts sh:List Nat)(i:Nat)(d:CK×E)(v:Value):Prop:=
 match d.1 with
 |.own f=>∃t,YW cs ts i=J t/\t∈ts/\a.tmps[t]?=J v/\∃x,eval s d.2=J x/\OwnV c.P B w h (h.bl t 1) f x v
 |.nil=>v=.slice U 0 0/\eval s d.2=J (.sl [])
 |.fz=>∃x,eval s d.2=J x/\x.aj=xk/\Rd w (h.ext sh) x v
 |.gu=>False
def Z1I{l}{z:Array Value}(F:∀(j:Nat) v,z[j]?=J v->∃x,l[j]?=J x/\WP v=J x)(t:z.size=I l)o n:
  Xx (Ke l o n).1=0/\∀u D C i j p,(Ke l o n).1[j]?=J p->BRel c B s a w h u D C i p (z.getD (o+j) xy):=by
 constructor;unfold Ke;induction (List.take n _)with
 |nil=>rfl
 |cons x r G=>cases x<;>simp_all[Xx]
 intro u D C i j p y;simp only[Ke,Z6G,Z6f]at y;obtain⟨x,g,rfl⟩:=y;rw[Z6O]at g;split at g;rw[Z6C]at g;have q:o+j<z.size:=by rw[t];exact(Z6d.1 g).1
 let⟨H,k,d⟩:=F (o+j) z[o+j] Z1;rw[g]at k;cases k;have f:z.getD (o+j) xy=z[o+j]:=by simp[q]
 rw[f];generalize z[o+j]=v at d;unfold WP at d;split at d<;>first
  |(simp at d;subst d;first|exact⟨_,rfl,rfl,.int _ _⟩|exact⟨_,rfl,rfl,.bool _⟩|exact⟨_,rfl,rfl,.str _⟩|exact⟨rfl,rfl⟩|exact⟨_,rfl,rfl,.lf⟩|exact⟨_,rfl,rfl,.li⟩|exact⟨_,rfl,rfl,.lj⟩)
  | (split at d<;>first
    | (rename_i A
       simp at d;subst d;rw[Z78 A.1,Z78 A.2];exact⟨_,rfl,rfl,.fn _⟩)
    |simp at d)
  |simp at d
 grind
def Mk{e}{n j:Nat}{z}(a:eval s (.ac e j)=J z):∃y,eval s e=J y/\y.pc[j]?=J z/\z.aj=xk:=by
 grind [eval,Option.bind_eq_some_iff,Ya,S1]
def E9{x:V}(h:∀l,x≠.am l):x.pc=x.cells:=by
 rfl
def yM(o:RelG c B G s a w h g)(k:holds s<|ZK c C){x d}(hx:Yy g C x=J d){ag fl n}(F:n≠0){z}
  (q:eval s (WL ag n (XG fl d).1)=J z):
  (∀l,z≠.am l)/\(ag=xk->I z.cells=n)/\(ag=xw->z.aj=xk)/\Rd w (h.ext (XG fl d).2) z (a.eval x):=by
 let⟨y,p,f⟩:=Wv o k (show Yy g C x=J _ from hx);let⟨j,u,A,D⟩:=zd q;let⟨H,r,t⟩:=Sz (fl:=fl) (b:=d) p f ⟨z,j⟩;simp_all
def OQ(T:RelG c B G s a w h g)(S:holds s<|ZK c C){n}(hn:n≠0){ag fl x}{b:BC}(A:qM g C n ag fl x=J b)(N:I b.1=n)
  (D:∀k∈b.1,∃z,eval s k.2=J z):
  Xx b.1=I b.2.2/\(a.eval x).cells.size=n/\∀f,(∀t∈b.2.1,t∈f)->∀j k,b.1[j]?=J k->BRel c B s a w h b.1 b.2.2 f j k ((a.eval x).cells.getD j xy):=by
 have a4:∀ {b},((Yy g C x).map λa0=>let a:=XG fl a0;let e:=WL ag n a.1;(if ag then(List.range n).map λj=>(CK.fz,E.ac e j)else [(.fz,e)],a.2,[]))=J b->I b.1=n->(∀k∈b.1,∃z,eval s k.2=J z)->
   Xx b.1=I b.2.2/\(a.eval x).cells.size=n/\∀f,(∀t∈b.2.1,t∈f)->∀j k,b.1[j]?=J k->BRel c B s a w h b.1 b.2.2 f j k ((a.eval x).cells.getD j xy):=by
  intro b H N D;simp only[Z6f]at H;obtain⟨R,W,rfl⟩:=H;have F:∀f,(∀t∈(XG fl R).2,t∈f)->∀b,h.ext (XG fl R).2 b->h.ext f b:=by
   intro f o b H;obtain H|⟨p,A,i,hi⟩:=H;exact .inl H;exact .inr ⟨p,o p A,i,hi⟩
  cases ag with
  |true=>
   have h0:=D (CK.fz,E.ac (WL xk n (XG fl R).1) 0) Z5h;let⟨z0,a3⟩:=h0;let⟨y,K,_,_⟩:=Mk (n:=n) a3;let⟨Y,h2,_,Z⟩:=yM T S W hn K;let⟨P,Q,u⟩:=Z.cells Y;refine⟨?_,Z5i,λf o j k d=> ?_⟩;generalize List.range n=l;induction l with
   |nil=>rfl
   |cons q r ih=>simp_all[Xx]
   simp at d;obtain⟨X,M,rfl⟩:=d;have a2:j<n:=by simpa using(Z6d.1 M).1
   have a1:X=j:=by simpa[a2]using M.symm
   subst a1;have L:y.cells[X]?=J (y.cells[X]'Z5i):=Z1;refine⟨_,?_,Q _ Z1,(u X _ L).mono<|F f o⟩;simp_all[eval,Z6s,Ya,E9,YS]
  |false=>
   let⟨y,K⟩:=D _<|Z86.2 rfl;have K:eval s (WL xw n (XG fl R).1)=J y:=K;let⟨Y,_,h3,Z⟩:=yM T S W hn K;let⟨P,Q,u⟩:=Z.cells Y;rw[UY Z5i]at P u;refine⟨rfl,Z5i,λf o j k d=> ?_⟩;cases j with
   |zero=>
    simp at d;subst d;exact⟨y,K,h3 rfl,(u 0 y rfl).mono Z5i⟩
   |succ j=>simp at d
 unfold qM at A;split at A;rename_i t ty e hk;simp at A;subst A;let⟨v,hv,⟨x,W,ho⟩,_⟩:=T.cj S (show look g C t=_ from hk) rfl;have O:v.cells=#[v]:=by
  obtain⟨l,xs,_,_,_,⟨_,hc⟩,_⟩|⟨_,_,_,_,_,_,_,rfl,_⟩:=ho;obtain⟨rfl,_⟩|⟨_,_,_,rfl,_⟩:=hc<;>rfl;rfl
 rw[Act.an a t v hv,O];refine⟨rfl,Z0,λf o j k d=> ?_⟩;cases j with
 |zero=>
  simp at d;subst d;exact⟨t,rfl,Z1,by simpa using hv,x,W,by simpa using ho⟩
 |succ j=>simp at d
 rename_i hk;simp at A;subst A;rw[Q5 T S hk];refine⟨rfl,by grind [Value.cells],λf o j k d=> ?_⟩;cases j with
 |zero=>simp at d;subst d;exact⟨rfl,rfl⟩
 |succ j=>simp at d
 grind
def BRel.left{cs r ts f sh i d v}(g:BRel c B s a w h cs ts sh i d v)(k:Xx cs=I ts)(j:i<I cs):BRel c B s a w h (cs++r) (ts++f) sh i d v:=by
 grind [BRel,jQ]
def BRel.right{cs r ts f sh i d v}(g:BRel c B s a w h r f sh i d v)(j:Xx cs=I ts):BRel c B s a w h (cs++r) (ts++f) sh (I cs+i) d v:=by
 grind [BRel,jR]
def AW(hr:RelG c B G s a w h g)(hC:holds s<|ZK c C){Q parts}{z:Array Value}(hz:∀(j:Nat) v,z[j]?=J v->∃x,Q[j]?=J x/\WP v=J x)(P:z.size=I Q)sh:
  ∀D i o b,QD g C Q parts D i o=J b->(∀d∈b.1,∃z,eval s d.2=J z)->(∀t∈b.2.1,t∈sh)->
   o+I b.1=I Q/\Xx b.1=I b.2.2/\
   (∀q f,D[q]?=J f->o<=f.1/\f.1+f.2.1<=I Q/\(∀(L:Nat) y,D[L]?=J y->q<L->f.1+f.2.1<=y.1))/\
   (∀q f p,D[q]?=J f->parts.find? (λp=>p.1==i+q)=J p->(a.eval p.2).cells.size=f.2.1)/\
   ∀R:Array Value,(∀q f,D[q]?=J f->∀j,j<f.2.1->R.getD (f.1+j) xy=match parts.find? (λp=>p.1==i+q)with|some p=>(a.eval p.2).cells.getD j xy|none=>z.getD (f.1+j) xy)->
    ∀j d,b.1[j]?=J d->BRel c B s a w h b.1 b.2.2 sh j d (R.getD (o+j) xy)
 | [],i,o,b,l,_,_=>by
   simp only[QD]at l;split at l;simp at l;subst l;exact⟨by simpa,rfl,Z1,Z1,Z1⟩;grind
 |f::D,i,o,b,l,N,Z=>by
  simp only[QD,Z6a]at l;let⟨k,n,l⟩:=l;split at l;rename_i F;let⟨ho,X,hn⟩:=F;simp only[Z6f]at l;obtain⟨b2,S,rfl⟩:=l;simp only[Z6Q]at N Z;let⟨h1,h2,h3,h4,h5⟩:=AW hr hC hz P sh D _ _ b2 S Z5h Z5i
  have O:Xx k.1=I k.2.2/\(∀p,parts.find? (λp=>p.1==i)=J p->(a.eval p.2).cells.size=f.2.1)/\
    ∀j d,k.1[j]?=J d->BRel c B s a w h k.1 k.2.2 sh j d (match parts.find? (λp=>p.1==i)with|some p=>(a.eval p.2).cells.getD j xy|none=>z.getD (f.1+j) xy):=by
   unfold E6 at n;cases r:parts.find? (λp=>p.1==i)with
   |some p=>
    simp[r]at n;let⟨k1,k2,k3⟩:=OQ hr hC hn n X λd T=>N d<|.inl T;grind
   |none=>
    simp[r,Z6c]at n;subst n;let⟨k1,k2⟩:=Z1I (c:=c) (B:=B) (s:=s) (a:=a) (w:=w) (h:=h) hz P f.1 f.2.1;exact⟨k1,Z1,λj d H=>k2 _ _ sh j j d H⟩
  let⟨f1,f2,f3⟩:=O;refine⟨Z5h,by grind [Dj,List.length_append],λq y K=> ?_,λq y p K hp=> ?_,λR hR j d H=> ?_⟩;cases q with
  |zero=>
   simp at K;subst K;refine⟨Z0,Z0,λL y Y A=> ?_⟩;grind
  |succ q=>
   let⟨g1,g2,g3⟩:=h3 q y Z5h;refine⟨Z0,g2,λL a0 Y A=> ?_⟩;cases L with
   |zero=>omega
   |succ L=>grind
  cases q with
  |zero=>simp at K;subst K;exact f2 p (by simpa using hp)
  |succ q=>exact h4 q y p Z5h (by rw[show i+1+q=i+(q+1)from by omega];exact hp)
  by_cases A:j<I k.1;rw[Z6B A]at H;have M:=hR 0 f rfl j Z0;rw[ho]at M;rw[M];have:=f3 j d H;rw[ho]at this;exact(this).left f1 A;rw[Z6v Z0]at H
  have:=h5 R (λq y K j' W=>by
   have:=hR (q+1) y Z5h j' W;grind) _ d H
  have u:=this.right (cs:=k.1) (ts:=k.2.2) f1;rw[show I k.1+(j-I k.1)=j from by omega]at u;rw[show o+f.2.1+(j-I k.1)=o+j from by omega]at u;exact u;grind
def qr:∀ {l},Tn l=xk->l.Nodup
 | [],_=>Z1
 |x::l,a=>by
  simp[Tn,Z8K]at a;exact Z83.2 ⟨a.1,qr a.2⟩
def Bs{β:Type}:∀ {l:List (Nat×β)} {p:Nat×β},(l.map (·.1)).Nodup->p∈l->l.find? (λq=>q.1==p.1)=J p
 | [],p,_,a=>by simp at a
 |q::l,p,f,a=>by
  simp[Z83]at f;obtain rfl|a:=Z6S.1 a;simp;have d:q.1≠p.1:=Z5h;rw[List.find?_cons_of_neg Z5E];exact Bs f.2 a
def Cq{α β:Type}{f}{g:α->β}:∀(l:List α),(∀x∈l,f x=J (g x))->l.mapM f=J (l.map g)
 | [],_=>rfl
 |x::l,a=>by
  simp_all[List.mapM_cons,Cq]
def My{β:Type}{n q f}{x:β}(h:((List.range n).map f)[q]?=J x):q<n/\x=f q:=by
 grind
def EW(hr:RelG c B G s a w h g)(hC:holds s<|ZK c C){T fs}(Y:Lw c.P T=J fs){zs}(hz:zeroCells c.P T=J zs){parts:Array (Nat×Operand)}{b}
  (hb:Kq g C zs parts.toList fs=J b) (b0:∀ck∈b.1,∃z,eval s ck.2=J z):
  ∃vs,(Instr.build T<|parts.map λ(i,x)=>(i,a.eval x)).run c.P w=.ok (.agg vs) w/\vs.size=I b.1/\Xx b.1=I b.2.2/\
   ∀j ck,b.1[j]?=J ck->BRel c B s a w h b.1 b.2.2 b.2.1 j ck (vs.getD j xy):=by
 unfold Kq at hb;split at hb;rename_i H;simp only[Z6l,Z6y,Z6J]at H;let⟨y,b4⟩:=H;have y:=qr y;let⟨i,z,hi,a8,a3,N⟩:=Ah hz
 obtain⟨place,k,F⟩:∃place,(∀q f,fs[q]?=J f->place q=J (f.1,f.2.1))/\
   ∀ps R,Instr.fill place z.cells ps=J R->c.P.built T ps=J R:=by
  unfold Lw at Y;split at Y;rename_i b7 a4;cases Y;obtain⟨W,hu,a0,rfl⟩:=Fw a4;have b5:W.toList.mapM (λf=>(c.P.info? f.type).map λi=>(f.offset,i.size))=J (W.toList.map λf=>(f.offset,c.P.cellsOf f.type)):=by
   apply Cq;intro f hf;let⟨d,i,hd,hi,hs,_⟩:=VD<|a0 f<|Array.mem_toList_iff.1 hf;simp[hi,hs]
  refine⟨λx=>(W.toList.map λf=>(f.offset,c.P.cellsOf f.type)).toArray[x]?,λq f Q=> ?_,λps R hR=> ?_⟩;simp at Q;obtain⟨M,O,rfl⟩:=Q;simp[O];simp only[Program.built,hi,hu,a8,b5];exact hR;rename_i n el a4;split at Y;rename_i a0;cases Y;have hu:=A3 a4;let⟨d,i',hd,b1,hs,_⟩:=VD a0;refine⟨λx=>J (x*c.P.cellsOf el,c.P.cellsOf el),λq f Q=> ?_,λps R hR=> ?_⟩;obtain⟨_,rfl⟩:=My Q;rfl;simp[Program.built,hi,hu,a8,b1,<-hs];exact hR;cases Y;cases Y
 let⟨h1,h2,h3,h4,h5⟩:=AW hr hC N a3 b.2.1 _ 0 0 b hb b0 Z1;simp only[Z6V]at h1 h4 h5;have u:∀p∈parts.toList,∃f,fs[p.1]?=J f/\(a.eval p.2).cells.size=f.2.1:=by
  intro p hp;have hl:=b4 p hp;refine⟨_,Z6b hl,h4 p.1 _ p Z1<|Bs y hp⟩
 let⟨R,hR,a9,X,a5⟩:=ye place (parts.toList.map λp=>(p.1,a.eval p.2)) z.cells (by
  intro p hp;obtain⟨L,t,rfl⟩:=Z6F.1 hp;let⟨f,hf,A⟩:=u L t;refine⟨f.1,by rw[k _ f hf,A],?_⟩;rw[A,a3];exact(h3 _ f hf).2.1)
 refine⟨R,run_build w T _ R<|F _ _ (by simpa only[Array.toList_map]using hR),by rw[a9,a3];omega,h2,λj ck hj=>h5 R (λq f Q j' b3=> ?_) j ck hj⟩;have K:∀q' M,fs[q']?=J M->q'≠q->f.1+f.2.1<=M.1\/M.1+M.2.1<=f.1:=by
  intro q' M S Z;obtain hl|hl:=Z89 Z;exact .inr<|(h3 q' M S).2.2 q f Q hl;exact .inl<|(h3 q f Q).2.2 q' M S hl
 cases r:parts.toList.find? (λp=>p.1==q)with
 |some p=>
  have a7:=Z8z r;have a1:p.1=q:=by simpa using Z91 r
  let⟨pre,b6,a2⟩:=List.append_of_mem a7;let⟨M,O,A⟩:=u p a7;rw[a1,Q]at O;cases O
  have b2:=a5 (pre.map λp=>(p.1,a.eval p.2)) (p.1,a.eval p.2) (b6.map λp=>(p.1,a.eval p.2)) (by rw[a2];simp) f.1 (by rw[a1,k q f Q,A]) (by
   intro q' S o n ho;obtain⟨L,t,rfl⟩:=Z6F.1 S;let⟨D,l,_⟩:=u L (by rw[a2];simp[t]);rw[k _ D l]at ho;obtain⟨rfl,rfl⟩:=ho;rw[A];refine K L.1 D l λhe=> ?_;rw[a2]at y;simp only[Z7I,Z6R,Z9i,Z83]at y;exact y.2.1.1 (by rw[a1,<-he];exact Z6F.2 ⟨L,t,rfl⟩)) j' (by simp only;rw[A];exact b3)
  simp;rw[b2]
 |none=>
  have a6:=X (f.1+j') (by
   intro p hp off n ho;obtain⟨L,t,rfl⟩:=Z6F.1 hp;let⟨D,l,_⟩:=u L t;rw[k _ D l]at ho;obtain⟨rfl,rfl⟩:=ho;have Z:L.1≠q:=λhe=>by
    have:=List.find?_eq_none.1 r L t;simp[he]at this
   have:=K L.1 D l Z;omega)
  simp;rw[a6]
 simp at hb
end
end Vm
end
