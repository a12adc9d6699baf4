import Derived.WalkKit
import Derived.Test.YtffknkhabklijaaSScanKeeps1
set_option linter.unusedSimpArgs false
set_option linter.unusedVariables false
set_option linter.defProp false
open Option renaming some→xk,none→xw
open Bool renaming true→xy,false→xh
open List renaming length→P
open Array renaming size→U
open Go.World renaming heap→R
open List renaming length→xq
open Array renaming size→xz
open Go.World renaming heap→xj
theorem Zdi{p:Prop}(h:p:=by simp at h):p:=h
theorem Zdn{p:Prop}(h:p:=by simp at d):p:=h
theorem Zdr{p:Prop}(h:p:=by have:=I p d;simp[Un]at this;exact this A):p:=h
theorem Zdz{p:Prop}(h:p:=by rfl):p:=h
theorem Zdp{p:Prop}(h:p:=by simp[Builtin.len_,run_underlying f,goInt]):p:=h
theorem Zdf{p:Prop}(h:p:=by rw[j.1];exact(List.getElem?_eq_some_iff.1 t).1):p:=h
theorem Zdj{p:Prop}(h:p:=by rw[cell_of_row w b o vs J (0,0) I];simp_all):p:=h
theorem Zd0{p:Prop}(h:p:=by simp[E.sure]at h):p:=h
theorem ZdD{p:Prop}(h:p:=by simpa using j):p:=h
def Zes:=@List.length_append
def Zf8:=@Nat.succ_mul
def Zea:=@List.getElem?_append_left
def Ze6:=@List.getElem?_append_right
def ZeD:=@List.mem_of_mem_take
def ZeU:=@List.length_take
def ZhT:=@Nat.min_eq_left
def ZeK:=@List.take_of_length_le
def Zeo:=@Nat.mul_le_mul_right
def Zft:=@List.drop_of_length_le
def ZdO:=@List.mem_of_getElem?
def ZeC:=@Go.World.cell?_of_block
def ZdR:=@List.all_eq_true
def ZeN:=@Array.eq_empty_of_size_eq_zero
def ZeB:=@List.eq_nil_of_length_eq_zero
def ZdT:=@Go.cell_of_row
def Zej:=@List.getElem?_take
def ZdF:=@Option.some.injEq
def ZdE:=@Option.bind_eq_some_iff
def ZdH:=@List.getElem?_eq_some_iff
def ZgI:=@List.any_eq_false
def ZgU:=@Bool.not_eq_true
def Zef:=@Go.RowKit.Below.refl
def ZeP:=@Option.isSome_iff_exists
def Zev:=@Go.run_underlying
def Zfp:=@Go.Addr.add_lit
def ZdG:=@List.getElem?_eq_getElem
def ZfF:=@List.ext_getElem?
def Zeb:=@List.getElem?_of_mem
def Ze9:=@List.getElem?_drop
def Zf3:=@Array.getElem?_toList
def Zek:=@List.length_map
def Zfk:=@List.getElem?_toArray
def ZeZ:=@Nat.add_assoc
def Zhq:=@List.length_range
def Zfd:=@List.mem_of_mem_drop
def ZdV:=@Int.eq_ofNat_of_zero_le
def ZdW:=@Int.toNat_natCast
def Ze0:=@List.getElem_mem
def ZhC:=@Array.getElem?_extract
def ZgG:=@List.drop_eq_nil_of_le
def ZfE:=@Nat.sub_self
def Zfa:=@List.take_length
def Zf4:=@Go.World.grownBy_alloc
def Ze7:=@Go.heap_alloc_new
def ZhF:=@Array.getElem?_zipIdx
def Zf2:=@List.length_cons
def Zhr:=@Nat.add_right_cancel_iff
def Ze1:=@List.getElem?_map
def ZfW:=@List.mem_range
def Zfc:=@List.contains_eq_mem
def ZgD:=@decide_eq_false_iff_not
def ZfI:=@List.nodup_cons
def Ze2:=@decide_eq_true_eq
def ZgB:=@Nat.lt_or_gt_of_ne
def Zgn:=@List.mem_of_find?_eq_some
def Zh8:=@List.find?_some
def Zf6:=@List.map_append
def ZgJ:=@List.nodup_append
section
namespace Vm
open Go
inductive V where
 |int (k:IntKind) (n:Int)
 |bool (b:Bool)
 |str (s:ByteArray)
 |sl (l:List V)
 |agg (cs:List V)
 |tup (l:List V)
 |ptr (cs:List V)
 |fn (f:FuncId)
 |mp (id:Nat) (ks vs:List V)
 |clo (f:FuncId) (cs:List V)
 |nul (k:Nat)
 deriving Inhabited
def V.cells:V->List V
 |.agg d=>d
 |x=>[x]
def V.one:V->Bool
 |.agg _|.tup _=>xh
 |_=>xy
def V.fits(k:Nat)(x:V):Prop:=P x.cells=k/\∀c∈x.cells,c.one=xy
def flat(l:List V):List V:=l.flatMap V.cells
def Z0V:flat []=[]:=rfl
def Sw x l:flat (x::l)=x.cells++flat l:=rfl
theorem jk l r:flat (l++r)=flat l++flat r:=by simp[flat]
def TA{k}:∀ {l},(∀x∈l,x.fits k)->P (flat l)=P l*k
 | [],_=>by simp[flat]
 |x::l,h=>by
  rw[Sw,Zes,(h x Z1).1,TA (λy d=>h y (by simp[d]))];simp[Zf8,ZgS]
def Vp{k}:∀ {l} {i:Nat} {x:V},(∀x∈l,x.fits k)->l[i]?=xk x->∀j,j<k->(flat l)[i*k+j]?=x.cells[j]?
 | [],i,x,_,h,_,_=>Zdi
 |y::l,0,x,d,h,j,f=>by
  simp at h;subst h;rw[Sw,Nat.zero_mul,Zet,Zea (by rw[(d y Z1).1];exact f)]
 |y::l,i+1,x,d,h,j,f=>by
  rw[Sw,Ze6 (by rw[(d y Z1).1];rw[Zf8];omega),(d y Z1).1,
   show(i+1)*k+j-k=i*k+j from by rw[Zf8];omega]
  exact Vp (λz n=>d z (by simp[n])) (by simpa using h) j f
def Z0W{k l}(h:∀x∈l,x.fits k)n:flat (l.take n)=(flat l).take (n*k):=by
 by_cases d:n<=P l;have j:P (flat (l.take n))=n*k:=by
  rw[TA (λx f=>h x (ZeD f)),ZeU,ZhT d]
 grind [flat,jk,List.take_append_drop,List.take_left];rw[ZeK Z0,ZeK];rw[TA h];exact Zeo _ Z0
def Z0T{k l}(h:∀x∈l,x.fits k)n:flat (l.drop n)=(flat l).drop (n*k):=by
 by_cases d:n<=P l;have j:P (flat (l.take n))=n*k:=by
  rw[TA (λx f=>h x (ZeD f)),ZeU,ZhT d]
 grind [flat,jk,List.take_append_drop,List.drop_left];rw[Zft Z0,Zft,Z0V];rw[TA h];exact Zeo _ Z0
def Z0U{l}{i:Nat}{c}(h:(flat l)[i]?=xk c):∃x∈l,c∈x.cells:=by
 have:=ZdO h;simp_all[flat]
inductive Rd (w:World) (G:Nat->Prop):V->Value->Prop where
 |int (k:IntKind) (n:Int):Rd w G (.int k n) (.int k n)
 |bool (b:Bool):Rd w G (.bool b) (.bool b)
 |str (s:ByteArray):Rd w G (.str s) (.string s)
 |nil (a:Option Addr) (cap:Nat):cap<=maxLen->Rd w G (.sl []) (.slice a 0 cap)
 |sl (l:List V) (b o cap k:Nat) (vs:Nat->Value):l.length<=cap->cap<=maxLen->G b->(∀x∈l,x.fits k)->
   (∀i,i<l.length*k->w.cell? ⟨b,o+i,none⟩=some (vs i))->(∀i c,(flat l)[i]?=some c->Rd w G c (vs i))->
   Rd w G (.sl l) (.slice (some ⟨b,o,none⟩) l.length cap)
 |agg (cs:List V) (vs:Array Value):vs.size=cs.length->(∀c∈cs,c.one=true)->(∀i c,cs[i]?=some c->Rd w G c (vs.getD i undef))->Rd w G (.agg cs) (.agg vs)
 |tup (l:List V) (vs:Array Value):vs.size=l.length->(∀i c,l[i]?=some c->Rd w G c (vs.getD i undef))->Rd w G (.tup l) (.tuple vs)
 |ptr (cs:List V) (b o:Nat) (vs:Nat->Value):G b->(∀c∈cs,c.one=true)->(∀i,i<cs.length->w.cell? ⟨b,o+i,none⟩=some (vs i))->
   (∀i c,cs[i]?=some c->Rd w G c (vs i))->Rd w G (.ptr cs) (.pointer (some ⟨b,o,none⟩))
 |fn (f:FuncId):Rd w G (.fn f) (.func (.func f) #[] #[])
 |clo (f:FuncId) (cs:List V) (vs:Array Value):vs.size=cs.length->(∀i c,cs[i]?=some c->Rd w G c (vs.getD i undef))->Rd w G (.clo f cs) (.func (.func f) #[] vs)
 |nul0:Rd w G (.nul 0) (.pointer none)
 |nul1:Rd w G (.nul 1) .nilFunc
 |nomp:Rd w G (.mp 0 [] []) (.map none)
 |mp (id:Nat) (ks xs:List V) (b clk:Nat) (es:Array MapEntry):(id=0\/id=b+1)->G b->w.heap[b]?=some (.map es clk)->ks.length=es.size->xs.length=es.size->
   (∀i c,ks[i]?=some c->Rd w G c (es.getD i default).key)->(∀i c,xs[i]?=some c->Rd w G c (es.getD i default).val)->Rd w G (.mp id ks xs) (.map (some b))
def Same(G:Nat->Prop)(w w':World):Prop:=∀b,G b->w'.heap[b]?=w.heap[b]?
def Same.refl G w:Same G w w:=λ_ _=>rfl
theorem Same.trans{G a b c}(h:Same G a b)(k:Same G b c):Same G a c:=λx d=>(k x d).trans (h x d)
def Same.cell{G w w'}(h:Same G w w'){b o}(d:G b):w'.cell? ⟨b,o,xw⟩=w.cell? ⟨b,o,xw⟩:=
 ZeC (h b d)
def Rd.keep{w w' G G' x v}(h:Rd w G x v)(z:Same G w w')(y:∀b,G b->G' b):Rd w' G' x v:=by
 induction h with
 |int k n=>exact .int k n
 |bool b=>exact .bool b
 |str s=>exact .str s
 |nil a cap I=>exact .nil a cap I
 |sl l b o cap k vs d p r u M _ j=>exact .sl l b o cap k vs d p (y _ r) u (λi J=>by rw[z.cell r];grind) j
 |agg q vs d p _ j=>exact .agg q vs d p j
 |tup l vs d _ j=>exact .tup l vs d j
 |ptr q b o vs d p r _ j=>exact .ptr q b o vs (y _ d) p (λi J=>by rw[z.cell d];grind) j
 |fn f=>exact .fn f
 |clo f q vs d _ j=>exact .clo f q vs d j
 |nul0=>exact .nul0
 |nul1=>exact .nul1
 |nomp=>exact .nomp
 |mp id K L b t F H d p r u _ _ A D=>exact .mp id K L b t F H (y _ d) (by rw[z b d];exact p) r u A D
def Rd.mono{w G G' x v}(h:Rd w G x v)(d:∀b,G b->G' b):Rd w G' x v:=h.keep (.refl _ _) d
def Rd.one_eq{w G x v}(h:Rd w G x v):v.oneCell'=x.one:=by
 cases h<;>rfl
theorem Rd.cells{w G x v}(h:Rd w G x v)(M:∀l,x≠.tup l):v.cells.size=P x.cells/\(∀c∈x.cells,c.one=xy)/\∀i c,x.cells[i]?=xk c->Rd w G c (v.cells.getD i undef):=by
 have d:∀ {x} {v:Value},Rd w G x v->x.one=xy->v.cells=#[v]->x.cells=[x]->v.cells.size=P x.cells/\(∀c∈x.cells,c.one=xy)/\∀i c,x.cells[i]?=xk c->Rd w G c (v.cells.getD i undef):=by
  intro x v h j I J;rw[I,J];refine⟨rfl,ZcJ,λi c H=> ?_⟩;cases i with
  |zero=>simp_all
  |succ i=>simp at H
 cases h with
 |agg t vs j p q=>exact⟨j,p,q⟩
 |tup l vs _ _=>simp_all
 |int k n=>exact d (.int k n) rfl rfl rfl
 |bool b=>exact d (.bool b) rfl rfl rfl
 |str s=>exact d (.str s) rfl rfl rfl
 |nil a cap F=>exact d (.nil a cap F) rfl rfl rfl
 |sl l b o cap k vs j p q r y z=>exact d (.sl l b o cap k vs j p q r y z) rfl rfl rfl
 |ptr t b o vs j p q r=>exact d (.ptr t b o vs j p q r) rfl rfl rfl
 |fn f=>exact d (.fn f) rfl rfl rfl
 |clo f t vs j p=>exact d (.clo f t vs j p) rfl rfl rfl
 |nul0=>exact d .nul0 rfl rfl rfl
 |nul1=>exact d .nul1 rfl rfl rfl
 |nomp=>exact d .nomp rfl rfl rfl
 |mp id K L b u A D j p q r y z=>exact d (.mp id K L b u A D j p q r y z) rfl rfl rfl
end Vm
namespace Vm
open Go
inductive KC where
 |b|i (k:IntKind)|s
 deriving DecidableEq,Inhabited
inductive E where
 |c (v:V)
 |s (t:Nat)
 |m (t i:Nat)
 |mm (t i n:Nat)
 |bin (op:BinOp) (a b:E)
 |eqv (neg:Bool) (a b:E)
 |un (op:UnOp) (a:E)
 |conv (k:IntKind) (a:E)
 |len (a:E)
 |mn (a b:E)
 |mx (a b:E)
 |ext (a:E) (i:Nat)
 |idx (a i:E) (k:Nat)
 |fld (a:E) (o:Nat)
 |flds (a:E) (o n:Nat)
 |ai (a i:E) (n k:Nat) (ag:Bool)
 |slc (a lo hi:E) (k:Nat)
 |slcl (a lo:E) (k:Nat)
 |app (a b:E) (k:Nat)
 |upd (a i:E) (o:Nat) (b:E)
 |aput (a i:E) (n k:Nat) (b:E)
 |mk (z:V) (n:E)
 |lit (l:List E)
 |ag (l:List E)
 |ite (c a b:E)
 |star (a:E)
 |isag (a:E)
 |one (a:E)
 |sz (a:E) (n:Nat)
 |fl (a:E)
 |fls (a:E)
 |lk (kc:KC) (a k:E) (z:V) (ok:Bool)
 |mput (kc:KC) (a k v:E)
 |mlen (a:E)
 |mclr (a:E)
 |pt (f:Option FuncId) (l:List E)
 deriving Inhabited
inductive SV where
 |no
 |v (x:V)
 |m (cs:List V)
 deriving Inhabited
abbrev St:=List SV
def get(s:St)(t:Nat):SV:=(s[t]?).getD .no
def Y4:Nat:=4294967296
def Xc:BinOp->V->V->Option V
 |.add,.int k a,.int d b=>if k=d then xk (.int k (k.wrap (a+b)))else xw
 |.sub,.int k a,.int d b=>if k=d then xk (.int k (k.wrap (a-b)))else xw
 |.mul,.int k a,.int d b=>if k=d then xk (.int k (k.wrap (a*b)))else xw
 |.quo,.int k a,.int d b=>if k=d/\b≠0 then xk (.int k (k.wrap (a.tdiv b)))else xw
 |.rem,.int k a,.int d b=>if k=d/\b≠0 then xk (.int k (a.tmod b))else xw
 |.and,.int k a,.int d b=>if k=d then xk (.int k (k.wrap (BitVec.ofInt k.bits a&&& BitVec.ofInt k.bits b).toNat))else xw
 |.or,.int k a,.int d b=>if k=d then xk (.int k (k.wrap (BitVec.ofInt k.bits a|||BitVec.ofInt k.bits b).toNat))else xw
 |.xor,.int k a,.int d b=>if k=d then xk (.int k (k.wrap (BitVec.ofInt k.bits a ^^^ BitVec.ofInt k.bits b).toNat))else xw
 |.shl,.int k a,.int _ b=>if 0<=b then xk (.int k (k.wrap (a*2 ^ (min b.toNat k.bits))))else xw
 |.shr,.int k a,.int _ b=>if 0<=b then xk (.int k (a.fdiv (2 ^ (min b.toNat k.bits))))else xw
 |.eql,.int k a,.int d b=>if k=d then xk (.bool (a==b))else xw
 |.neq,.int k a,.int d b=>if k=d then xk (.bool (a !=b))else xw
 |.lss,.int k a,.int d b=>if k=d then xk (.bool (decide (a<b)))else xw
 |.leq,.int k a,.int d b=>if k=d then xk (.bool (decide (a<=b)))else xw
 |.gtr,.int k a,.int d b=>if k=d then xk (.bool (decide (a>b)))else xw
 |.geq,.int k a,.int d b=>if k=d then xk (.bool (decide (a≥b)))else xw
 |_,_,_=>xw
def Ss(neg:Bool):V->V->Option V
 |.bool a,.bool b=>xk (.bool (neg ^^ (a==b)))
 |_,_=>xw
def Sc:UnOp->V->Option V
 |.neg,.int k n=>xk (.int k (k.wrap (0-n)))
 |.not,.bool b=>xk (.bool !b)
 |_,_=>xw
def Qq(k:IntKind):V->Option V
 |.int _ n=>xk (.int k (k.wrap n))
 |_=>xw
def RG:V->Option V
 |.sl l=>xk (.int .i64 (P l))
 |_=>xw
def RL:V->V->Option V
 |.int k x,.int _ y=>xk (.int k (if y<x then y else x))
 |_,_=>xw
def RJ:V->V->Option V
 |.int k x,.int _ y=>xk (.int k (if y>x then y else x))
 |_,_=>xw
def Ty:V->Nat->Option V
 |.tup l,i=>l[i]?
 |_,_=>xw
def X3(x i:V)(k:Nat):Option V:=
 match x,i with
 |.sl l,.int _ i=>if 0<=i then(l[i.toNat]?).bind λz=>if P z.cells=k then xk z else xw else xw
 |_,_=>xw
def V.pc:V->List V
 |.agg d=>d
 |x=>[x]
def UP:V->Option V
 |.ptr d=>xk (.agg d)
 |_=>xw
def YP(x:V):Option V:=if x.one then xk x else xw
def Vi(x:V)(n:Nat):Option V:=if P x.cells=n then match x with|.tup _=>xw|x=>xk x else xw
def RB:V->Option V
 |.agg d=>xk (.agg d)
 |_=>xw
def ZX(x:V)(o:Nat):Option V:=(x.pc[o]?).bind YP
def Xp(k:Nat)(l:List V):Bool:=l.all λx=>P x.cells==k
def U9(x:V)(o n:Nat):Option V:=if o+n<=(P x.pc) then xk (.agg ((x.pc.drop o).take n))else xw
def Y5(x i:V)(n k:Nat)(ag:Bool):Option V:=
 match x,i with
 |.agg d,.int _ i=>if 0<=i/\i<n/\P d=n*k then(if ag then xk (.agg ((d.drop (i.toNat*k)).take k))else d[i.toNat*k]?)else xw
 |_,_=>xw
def SW(k:Nat):V->V->V->Option V
 |.sl l,.int _ a,.int _ b=>if 0<=a/\a<=b/\b<=P l/\Xp k l=xy then xk (.sl ((l.take b.toNat).drop a.toNat))else xw
 |_,_,_=>xw
def Q3(k:Nat):V->V->Option V
 |.sl l,.int _ a=>if 0<=a/\a<=P l/\Xp k l=xy then xk (.sl (l.drop a.toNat))else xw
 |_,_=>xw
def R9(k:Nat):V->V->Option V
 |.sl a,.sl b=>if P a+P b<=Y4/\Xp k b=xy then xk (.sl (a++b))else xw
 |_,_=>xw
def setCells(cs:List V)(o:Nat)(b:List V):List V:=cs.take o++b++cs.drop (o+P b)
def V.put(x:V)(o:Nat)(b:List V):V:=
 match x with
 |.agg d=>.agg (setCells d o b)
 |_=>b.headD x
def R1(x i:V)(o:Nat)(b:V):Option V:=
 match x,i with
 |.sl l,.int _ i=>if 0<=i then(l[i.toNat]?).bind λy=>if o+P b.cells<=P y.cells/\b.cells≠[]then xk (.sl (l.set i.toNat (y.put o b.cells)))else xw else xw
 |_,_=>xw
def Ut(x i:V)(n k:Nat)(b:V):Option V:=
 match x,i with
 |.agg d,.int _ i=>if 0<=i/\i<n/\P d=n*k/\P b.cells=k then xk (.agg (setCells d (i.toNat*k) b.cells))else xw
 |_,_=>xw
def K7(z:V):V->Option V
 |.int _ n=>if 0<=n/\n<=Y4 then xk (.sl (List.replicate n.toNat z))else xw
 |_=>xw
def Ts(l:List V):V:=.agg (flat l)
def V.flatc:V->Bool
 |.int .. |.bool _|.str _=>xy
 |_=>xh
def Wl(x:V):Option V:=
 match x with
 |.tup _=>xw
 |x=>if x.cells.all V.flatc then xk x else xw
def jo(x:V):Option V:=
 match x with
 |.sl l=>if(Vm.flat l).all V.flatc then xk x else xw
 |_=>xw
def K3:V->V->Option Bool
 |.int k a,.int d b=>if k=d then xk (a==b)else xw
 |.bool a,.bool b=>xk (a==b)
 |.str a,.str b=>xk (a==b)
 |_,_=>xw
def T6(k:V):List V->Option (Option Nat)
 | []=>xk xw
 |y::l=>match K3 k y with
  |some xy=>xk (xk 0)
  |some xh=>(T6 k l).map λr=>r.map (· +1)
  |none=>xw
def WY:KC->V->Bool
 |.b,.bool _=>xy
 |.i k,.int d _=>decide (k=d)
 |.s,.str _=>xy
 |_,_=>xh
def Ud(d:KC)(x k z:V)(ok:Bool):Option V:=
 if WY d k=xh then xw else
 match x with
 | .mp _ f vs=>match T6 k f with
   |some (xk i)=>(vs[i]?).map λv=>if ok then .tup [v,.bool xy]else v
   |some xw=>xk (if ok then .tup [z,.bool xh]else z)
   |none=>xw
 |_=>xw
def UG(f:KC)(x k v:V):Option V:=
 if WY f k=xh then xw else
 match x with
 | .mp id d vs=>match T6 k d with
   |some (xk i)=>xk (.mp id d (vs.set i v))
   |some xw=>xk (.mp id (d++[k]) (vs++[v]))
   |none=>xw
 |_=>xw
def K5:V->Option V
 |.mp id _ _=>xk (.mp id [] [])
 |_=>xw
def SD:V->Option V
 |.mp _ d _=>xk (.int .i64 (P d))
 |_=>xw
def QH(c:V)(a b:Option V):Option V:=
 match c with
 |.bool xy=>a
 |.bool xh=>b
 |_=>xw
def Kx(f:Option FuncId)(l:List V):Option V:=
 match f with
 |none=>if l.all V.one then xk (.ptr l)else xw
 |some f=>xk (.clo f l)
mutual
def eval(s:St):E->Option V
 |.c v=>xk v
 |.s t=>match get s t with|.v x=>xk x|_=>xw
 |.m t i=>match get s t with|.m d=>(d[i]?).bind YP|_=>xw
 |.mm t i n=>match get s t with|.m d=>if i+n<=(P d) then xk (.agg ((d.drop i).take n))else xw|_=>xw
 |.bin op a b=>(eval s a).bind λx=>(eval s b).bind λy=>Xc op x y
 |.eqv n a b=>(eval s a).bind λx=>(eval s b).bind λy=>Ss n x y
 |.un op a=>(eval s a).bind (Sc op)
 |.conv k a=>(eval s a).bind (Qq k)
 |.len a=>(eval s a).bind RG
 |.mn a b=>(eval s a).bind λx=>(eval s b).bind λy=>RL x y
 |.mx a b=>(eval s a).bind λx=>(eval s b).bind λy=>RJ x y
 |.ext a i=>(eval s a).bind λx=>Ty x i
 |.idx a i k=>(eval s a).bind λx=>(eval s i).bind λy=>X3 x y k
 |.fld a o=>(eval s a).bind λx=>ZX x o
 |.flds a o n=>(eval s a).bind λx=>U9 x o n
 |.ai a i n k ag=>(eval s a).bind λx=>(eval s i).bind λy=>Y5 x y n k ag
 |.slc a p q k=>(eval s a).bind λx=>(eval s p).bind λy=>(eval s q).bind λz=>SW k x y z
 |.slcl a p k=>(eval s a).bind λx=>(eval s p).bind λy=>Q3 k x y
 |.app a b k=>(eval s a).bind λx=>(eval s b).bind λy=>R9 k x y
 |.upd a i o b=>(eval s a).bind λx=>(eval s i).bind λy=>(eval s b).bind λz=>R1 x y o z
 |.aput a i n k b=>(eval s a).bind λx=>(eval s i).bind λy=>(eval s b).bind λz=>Ut x y n k z
 |.mk z n=>(eval s n).bind (K7 z)
 |.lit l=>(YA s l).map .sl
 |.ag l=>(YA s l).map Ts
 |.ite c a b=>(eval s c).bind λx=>QH x (eval s a) (eval s b)
 |.star a=>(eval s a).bind UP
 |.isag a=>(eval s a).bind RB
 |.one a=>(eval s a).bind YP
 |.sz a n=>(eval s a).bind λx=>Vi x n
 |.fl a=>(eval s a).bind Wl
 |.fls a=>(eval s a).bind jo
 |.lk j a k z ok=>(eval s a).bind λx=>(eval s k).bind λy=>Ud j x y z ok
 |.mput j a k v=>(eval s a).bind λx=>(eval s k).bind λy=>(eval s v).bind λz=>UG j x y z
 |.mlen a=>(eval s a).bind SD
 |.mclr a=>(eval s a).bind K5
 |.pt f l=>(YA s l).bind (Kx f)
def YA(s:St):List E->Option (List V)
 | []=>xk []
 |e::l=>(eval s e).bind λx=>(YA s l).map (x:: ·)
end
mutual
def V.same:V->V->Bool
 |.int k n,.int l o=>decide (k=l)&&decide (n=o)
 |.bool a,.bool b=>a==b
 |.sl a,.sl b=>V.sames a b
 |.agg a,.agg b=>V.sames a b
 |.tup a,.tup b=>V.sames a b
 |.fn a,.fn b=>a==b
 |.mp i a b,.mp j d f=>i==j&&V.sames a d&&V.sames b f
 |_,_=>xh
def V.sames:List V->List V->Bool
 | [],[]=>xy
 |a::l,b::r=>V.same a b&&V.sames l r
 |_,_=>xh
end
mutual
def E.same:E->E->Bool
 |.c a,.c b=>V.same a b
 |.s a,.s b=>a==b
 |.m a i,.m b j=>a==b&&i==j
 |.mm a i n,.mm b j y=>a==b&&i==j&&n==y
 |.bin o a b,.bin x p t=>decide (o=x)&&E.same a p&&E.same b t
 |.eqv o a b,.eqv x p t=>o==x&&E.same a p&&E.same b t
 |.un o a,.un x p=>decide (o=x)&&E.same a p
 |.conv k a,.conv u p=>decide (k=u)&&E.same a p
 |.len a,.len b=>E.same a b
 |.mn a b,.mn p t=>E.same a p&&E.same b t
 |.mx a b,.mx p t=>E.same a p&&E.same b t
 |.ext a i,.ext b j=>E.same a b&&i==j
 |.idx a b k,.idx p t u=>E.same a p&&E.same b t&&k==u
 |.fld a o,.fld b x=>E.same a b&&o==x
 |.flds a o n,.flds b x y=>E.same a b&&o==x&&n==y
 |.ai a i n k g,.ai p A y u I=>E.same a p&&E.same i A&&n==y&&k==u&&g==I
 |.slc a b d k,.slc p t D u=>E.same a p&&E.same b t&&E.same d D&&k==u
 |.slcl a b k,.slcl p t u=>E.same a p&&E.same b t&&k==u
 |.app a b k,.app p t u=>E.same a p&&E.same b t&&k==u
 |.upd a i o b,.upd p A x t=>E.same a p&&E.same i A&&o==x&&E.same b t
 |.aput a i n k b,.aput p A y u t=>E.same a p&&E.same i A&&n==y&&k==u&&E.same b t
 |.mk z n,.mk H y=>V.same z H&&E.same n y
 |.lit l,.lit r=>E.sames l r
 |.ag l,.ag r=>E.sames l r
 |.star a,.star b=>E.same a b
 |.isag a,.isag b=>E.same a b
 |.one a,.one b=>E.same a b
 |.sz a n,.sz b y=>E.same a b&&n==y
 |.fl a,.fl b=>E.same a b
 |.fls a,.fls b=>E.same a b
 |.lk q a k z o,.lk F p u H x=>decide (q=F)&&E.same a p&&E.same k u&&V.same z H&&o==x
 |.mput q a k v,.mput F p u J=>decide (q=F)&&E.same a p&&E.same k u&&E.same v J
 |.mlen a,.mlen b=>E.same a b
 |.mclr a,.mclr b=>E.same a b
 |.pt f l,.pt g r=>f==g&&E.sames l r
 |.ite a b d,.ite p t D=>E.same a p&&E.same b t&&E.same d D
 |_,_=>xh
def E.sames:List E->List E->Bool
 | [],[]=>xy
 |a::l,b::r=>E.same a b&&E.sames l r
 |_,_=>xh
end
mutual
def E.has(x:E):E->Bool
 |.bin o a b=>E.same x (.bin o a b)||E.has x a||E.has x b
 |.eqv o a b=>E.same x (.eqv o a b)||E.has x a||E.has x b
 |.un o a=>E.same x (.un o a)||E.has x a
 |.conv k a=>E.same x (.conv k a)||E.has x a
 |.len a=>E.same x (.len a)||E.has x a
 |.mn a b=>E.same x (.mn a b)||E.has x a||E.has x b
 |.mx a b=>E.same x (.mx a b)||E.has x a||E.has x b
 |.ext a i=>E.same x (.ext a i)||E.has x a
 |.idx a b k=>E.same x (.idx a b k)||E.has x a||E.has x b
 |.fld a o=>E.same x (.fld a o)||E.has x a
 |.flds a o n=>E.same x (.flds a o n)||E.has x a
 |.ai a i n k g=>E.same x (.ai a i n k g)||E.has x a||E.has x i
 |.slc a b d k=>E.same x (.slc a b d k)||E.has x a||E.has x b||E.has x d
 |.slcl a b k=>E.same x (.slcl a b k)||E.has x a||E.has x b
 |.app a b k=>E.same x (.app a b k)||E.has x a||E.has x b
 |.upd a i o b=>E.same x (.upd a i o b)||E.has x a||E.has x i||E.has x b
 |.aput a i n k b=>E.same x (.aput a i n k b)||E.has x a||E.has x i||E.has x b
 |.mk z n=>E.same x (.mk z n)||E.has x n
 |.lit l=>E.same x (.lit l)||E.hasIn x l
 |.ag l=>E.same x (.ag l)||E.hasIn x l
 |.ite a b d=>E.same x (.ite a b d)||E.has x a
 |.star a=>E.same x (.star a)||E.has x a
 |.isag a=>E.same x (.isag a)||E.has x a
 |.one a=>E.same x (.one a)||E.has x a
 |.sz a n=>E.same x (.sz a n)||E.has x a
 |.fl a=>E.same x (.fl a)||E.has x a
 |.fls a=>E.same x (.fls a)||E.has x a
 |.lk q a k z o=>E.same x (.lk q a k z o)||E.has x a||E.has x k
 |.mput q a k v=>E.same x (.mput q a k v)||E.has x a||E.has x k||E.has x v
 |.mlen a=>E.same x (.mlen a)||E.has x a
 |.mclr a=>E.same x (.mclr a)||E.has x a
 |.pt f l=>E.same x (.pt f l)||E.hasIn x l
 |.c v=>E.same x (.c v)
 |.s t=>E.same x (.s t)
 |.m t i=>E.same x (.m t i)
 |.mm t i n=>E.same x (.mm t i n)
def E.hasIn(x:E):List E->Bool
 | []=>xh
 |a::l=>E.has x a||E.hasIn x l
end
def E.sure:E->Bool
 |.c v=>v.one
 |.m .. |.bin .. |.eqv .. |.un .. |.conv .. |.len _|.mn .. |.mx .. |.fld .. |.slc .. |.slcl .. |.app .. |.upd .. |.mk .. |.lit _|.one _|.mput .. |.mlen _|.mclr _=>xy
 |.ite _ a b=>E.sure a&&E.sure b
 |_=>xh
def E.sized(n:Nat):E->Bool
 |.mm _ _ k=>k==n
 |.flds _ _ k=>k==n
 |.ag l=>P l==n&&l.all E.sure
 |.sz _ k=>k==n
 |_=>xh
def y5(e:E):E:=if e.sure then e else .one e
def Cn(e:E)(n:Nat):E:=if e.sized n then e else .sz e n
def WK(ag:Bool)(n:Nat)(e:E):E:=if ag then Cn e n else y5 e
inductive TD where
 |sc|sl (e:TypeId)|st (fs:List (Nat×Nat×Bool×Bool))|ar (n:Nat) (e:TypeId)|pt (e:TypeId)|no
 deriving DecidableEq,Inhabited
def WV:Value->Option V
 |.int k n=>xk (.int k n)
 |.bool b=>xk (.bool b)
 |.string s=>xk (.str s)
 |.slice xw 0 0=>xk (.sl [])
 |.func (.func f) first d=>if first.size=0/\d.size=0 then xk (.fn f)else xw
 |.map xw=>xk (.mp 0 [] [])
 |.pointer xw=>xk (.nul 0)
 |.nilFunc=>xk (.nul 1)
 |_=>xw
def Y3(P:Program)(t:TypeId):Bool:=
 match P.underlying t with
 |some (.struct _)|some (.array _ _)=>xy
 |_=>xh
def zeroCells(P:Program)(t:TypeId):Option (List V):=
 ((P.info? t).bind (·.zero)).bind λz=>z.cells.toList.mapM WV
def XB(P:Program)(t:TypeId):Bool:=
 match P.underlying t with
 |some .bool|some (.int _)|some .string=>xy
 |some (.struct _)|some (.array _ _)=>match zeroCells P t with|some l=>l.all V.flatc|none=>xh
 |some (.tuple d)=>d.all λu=>match P.underlying u with
  |some .bool|some (.int _)|some .string=>xy
  |some (.struct _)|some (.array _ _)=>(match zeroCells P u with|some l=>l.all V.flatc|none=>xh)
  |_=>xh
 |_=>xh
def X1(P:Program)(T:TypeId):Bool:=(P.underlying T).isSome&&(P.info? T).isSome
def Vj(P:Program)(t:TypeId):TD:=
 match P.underlying t with
 |some .bool|some (.int _)|some .string=>.sc
 |some (.slice e)=>.sl e
 |some (.struct d)=>if d.toList.all (λf=>X1 P f.type)then .st (d.toList.map λf=>(f.offset,P.cellsOf f.type,Y3 P f.type,XB P f.type))else .no
 |some (.array n e)=>.ar n e
 |some (.pointer e)=>.pt e
 |_=>.no
def U5(P:Program)(d:TypeId):Bool:=
 match P.info? d with
 |some i=>match i.zero with
  |some z=>z.cells.size==i.size&&decide (0<i.size)&&decide (i.bytes<=32768)
  |none=>xh
 |none=>xh
inductive CK where
 |fz|own (ty:TypeId)|nil|dead
 deriving DecidableEq,Inhabited
inductive OT where
 |fz|own (ty:TypeId)|nil|mem (l:List CK)|clo (f:FuncId) (caps:List Nat)
 deriving DecidableEq,Inhabited
inductive TK where
 |no
 |val (e:E) (sh:List Nat)
 |own (ty:TypeId) (e:E)
 |nil
 |mem (cs:List (CK×E))
 |ags (cs:List (CK×E))
 |ref (p:Nat)
 |refm (p i:Nat)
 |pm (p o:Nat)
 |pc (e:E) (o:Nat) (sh:List Nat)
 |pe (p:Nat) (i:Option Nat) (j:E) (o k:Nat)
 |pa (p o:Nat) (j:E) (n k:Nat)
 |clo (f:FuncId) (caps:List Nat)
 |big (e:E) (sh:List Nat)
 deriving Inhabited
def TK.isNo:TK->Bool
 |.no=>xy
 |_=>xh
abbrev ZB:=List (Nat×Bool)
abbrev Gam:=List (Nat×ZB×TK)
def Gam.at(g:Gam)(t:Nat):ZB×TK:=
 match g with
 | []=>([],.no)
 |(u,x)::r=>if u=t then x else Gam.at r t
def memOf(g:Gam)(p:Nat):Option (List (CK×E)):=
 match g.at p with
 |([],.mem d)=>xk d
 |_=>xw
def ownOf(g:Gam)(p:Nat):Option (TypeId×E):=
 match g.at p with
 |([],.own d e)=>xk (d,e)
 |_=>xw
def Rg(a b:ZB):Bool:=a.all λx=>b.contains x
def look(g:Gam)(C:ZB)(t:Nat):TK:=let x:=g.at t;if Rg x.1 C then x.2 else .no
def Us(cs:List (CK×E)):Bool:=cs.any λc=>match c.1 with|.own _=>xy|_=>xh
def Wi(cs:List (CK×E)):Bool:=cs.any λc=>c.1==.dead
def ownAt(g:Gam):TK->Option (TypeId×E)
 |.ref p=>ownOf g p
 | .refm p i=>(memOf g p).bind λd=>match d[i]? with
   |some (.own f,e)=>xk (f,e)
   |_=>xw
 |_=>xw
def XU(g:Gam)(k:TK)(t:Nat):Option (E×List Nat):=
 match k with
 |.val e f=>xk (e,f)
 |.own _ e=>xk (e,[t])
 |.nil=>xk (.c (.sl []),[])
 |.ags d=>if Wi d then xw else xk (.ag (d.map (·.2)),if Us d then [t]else [])
 |.ref p=>(ownAt g (.ref p)).map λx=>(x.2,[p])
 |.refm p i=>(ownAt g (.refm p i)).map λx=>(x.2,[p])
 |_=>xw
def Yk(g:Gam)(C:ZB)(x:Operand):TK:=
 match x with
 |.const (.slice xw 0 0)=>.nil
 |.const v=>match WV v with|some x=>.val (.c x) [] |none=>.no
 |.tmp t=>look g C t
 |.func f=>.val (.c (.fn f)) []
 |_=>.no
def SJ:Operand->Nat
 |.tmp t=>t
 |_=>0
def Yu(g:Gam)(C:ZB)(x:Operand):Option (E×List Nat):=
 XU g (Yk g C x) (match x with|.tmp t=>t|_=>0)
def XA(fl:Bool)(b:E×List Nat):E×List Nat:=if b.2.isEmpty then b else if fl then(.fl b.1,[])else b
def Kk(g:Gam)(C:ZB)(fl:Bool):List Operand->Option (List E×List Nat)
 | []=>xk ([],[])
 |x::l=>(Yu g C x).bind λd=>(Kk g C fl l).map λb=>let a:=XA fl d;(a.1::b.1,a.2++b.2)
def Jy(g:Gam):List Nat->Option (List E)
 | []=>xk []
 |p::l=>(memOf g p).bind λd=>if Wi d then xw else(Jy g l).map λf=>.pt xw (d.map (·.2))::f
def U4(g:Gam)(k:TK)(t:Nat):Option (E×List Nat):=
 match k with
 |.mem j=>if Wi j then xw else xk (.pt xw (j.map (·.2)),[t])
 |.pm p 0=>(memOf g p).bind λj=>if Wi j then xw else xk (.pt xw (j.map (·.2)),[p])
 |.clo f d=>(Jy g d).map λl=>(.pt (xk f) l,d)
 |.big e n=>xk (e,n)
 |_=>xw
def qD(g:Gam)(C:ZB)(fl:Bool)(x:Operand):Option (E×List Nat×Bool):=
 match Yu g C x with
 |some a=>xk ((XA fl a).1,(XA fl a).2,xh)
 |none=>(U4 g (Yk g C x) (SJ x)).map λa=>(a.1,a.2,xy)
def Ju(P:Program)(g:Gam)(C:ZB):List Operand->List TypeId->Option (List E×List Nat×Bool)
 | [],_=>xk ([],[],xh)
 |x::l,d=>(qD g C (match d with|t::_=>XB P t| []=>xh) x).bind λa=>(Ju P g C l d.tail).map λb=>(a.1::b.1,a.2.1++b.2.1,a.2.2||b.2.2)
def UL(p:Nat):Nat->List (CK×E)->Bool
 |_,[]=>xy
 |i,(_,.m q j)::r=>p==q&&i==j&&UL p (i+1) r
 |_,_=>xh
def Cz:TK->List E
 |.val e _=>[e]
 |_=>[]
structure Ctx where
 P:Program
 ix:Nat->Nat
 own:Nat->Bool
 fresh:FuncId->Bool
 sig:FuncId->Option (List OT)
 tr:List Nat
 n:Nat
 kp:List Nat:=[]
def zw(c:Ctx)(g:Gam)(T:TypeId)(p o:Nat):Option TK:=
 (memOf g p).bind λd=>
  if Y3 c.P T then
   let part:=(d.drop o).take (c.P.cellsOf T)
   if P part=c.P.cellsOf T/\Wi part=xh/\0<c.P.cellsOf T then
    xk (.val (if UL (c.ix p) o part then .mm (c.ix p) o (P part) else .ag (part.map (·.2))) (if Us part then [p]else []))
   else xw
  else match d[o]? with
   |some (.fz,e)=>xk (.val e [])
   |some (.own _,_)=>xk (.refm p o)
   |some (.nil,_)=>xk .nil
   |_=>xw
def A4(c:Ctx)(g:Gam)(T:TypeId)(p o:Nat)(j:E)(m k:Nat):Option TK:=
 (memOf g p).bind λd=>
  let part:=(d.drop o).take (m*k)
  if P part=m*k/\c.P.cellsOf T=k/\0<m*k/\Us part=xh/\Wi part=xh then
   xk (.val (.ai (if UL (c.ix p) o part then .mm (c.ix p) o (P part) else .ag (part.map (·.2))) j m k (Y3 c.P T)) [])
  else xw
def JC(c:Ctx)(T:TypeId)(e:E)(o:Nat):E:=if Y3 c.P T then .flds e o (c.P.cellsOf T)else .fld e o
def RT(p:Nat):Option Nat->TK
 |none=>.ref p
 |some i=>.refm p i
def A5(c:Ctx)(g:Gam)(T:TypeId)(p:Nat)(i:Option Nat)(j:E)(o k:Nat):Option TK:=
 (ownAt g (RT p i)).bind λx=>if c.P.cellsOf x.1=k then xk (.val (JC c T (.idx x.2 j k) o) [p])else xw
def Gi(c:Ctx)(g:Gam)(T:TypeId)(k:TK)(t:Nat):Option TK:=
 match k with
 |.mem _=>zw c g T t 0
 |.pm p o=>zw c g T p o
 |.pc e o d=>xk (.val (JC c T e o) d)
 |.val e d=>xk (.val (JC c T (.star e) 0) d)
 |.pe p i j o k=>A5 c g T p i j o k
 |.pa p o j m k=>A4 c g T p o j m k
 |_=>xw
def JJ(P:Program)(T:TypeId)(f:Nat):Option (Nat×Nat×Bool×Bool):=
 match Vj P T with
 |.st d=>d[f]?
 |_=>xw
abbrev PK:=Option (TK×List E)
def TK.free:TK->Bool
 |.own .. |.mem _|.ags _|.no=>xh
 |_=>xy
def Bk(g:Gam)(C:ZB)(x:Operand):PK:=
 if(Yk g C x).free then xk (Yk g C x,[])else
 match x,Yk g C x with
 |.tmp t,.own _ _=>xk (.ref t,[])
 |.tmp t,.mem _=>xk (.pm t 0,[])
 |.tmp t,.ags d=>(XU g (.ags d) t).map λy=>(.val y.1 y.2,[])
 |_,_=>xw
def Bl(g:Gam)(C:ZB)(x:Operand):PK:=
 match Yk g C x with
 |.mem _=>xk (.pm (SJ x) 0,[])
 |.pm p o=>xk (.pm p o,[])
 |.val e d=>xk (.val e d,[.star e])
 |_=>xw
def B7(c:Ctx)(g:Gam)(C:ZB)(ty:TypeId)(x:Operand):PK:=
 match Yk g C x with
 |.val e []=>xk (.val e [],[])
 |.val e (p::j)=>if XB c.P ty then xk (.val (.fl e) [],[.fl e])else xw
 |.nil=>xk (.nil,[])
 |.clo f d=>xk (.clo f d,[])
 |_=>xw
def B5(c:Ctx)(T:TypeId):PK:=
 (zeroCells c.P T).bind λz=>if z.isEmpty then xw else xk (.mem (z.map λx=>((match x with|.sl _=>CK.nil|_=>.fz),E.c x)),[])
def B9(c:Ctx)(g:Gam)(C:ZB)(T:TypeId)(x:Operand):PK:=
 match Yk g C x with
 | .val d []=>
   if X1 c.P T then
    let e:=WK (Y3 c.P T) (c.P.cellsOf T) d
    if Y3 c.P T then xk (.mem ((List.range (c.P.cellsOf T)).map λi=>(CK.fz,E.fld e i)),[e])else xk (.mem [(.fz,e)],[e])
   else xw
 |_=>xw
def qZ(P:Program)(T:TypeId):Bool:=
 match P.underlying T with
 |some .bool=>xy
 |_=>xh
def Ql(P:Program)(d:TypeId->Nat->Option E)(n o:Nat):List Field->Option E
 | []=>xk (.c (.bool xy))
 |f::l=>if f.name≠ "_" /\f.offset+P.cellsOf f.type<=n then(d f.type (o+f.offset)).bind λx=>(Ql P d n o l).map λy=>.ite x y (.c (.bool xh))else xw
def U6(P:Program)(a b:E):Nat->TypeId->Nat->Option E
 |0,_,_=>xw
 |d+1,T,o=>
  match P.underlying T with
  |some .bool=>if P.cellsOf T=1 then xk (.eqv xh (.fld a o) (.fld b o))else xw
  |some (.int _)=>if P.cellsOf T=1 then xk (.bin .eql (.fld a o) (.fld b o))else xw
  |some (.struct f)=>if f.toList≠[]/\P.cellsOf T≠0/\P.stoodInHeld T=xh then Ql P (U6 P a b d) (P.cellsOf T) o f.toList else xw
  |_=>xw
def Qs(P:Program)(T:TypeId)(a b:E):Option E:=
 if Y3 P T/\P.eqGuardType P.depth T=xh then U6 P (.sz (.isag a) (P.cellsOf T)) (.sz (.isag b) (P.cellsOf T)) 4 T 0 else xw
def Ls(P:Program)(T:TypeId)(op:BinOp)(a b:E):E:=
 if qZ P T then match op with
  |.eql=>.eqv xh a b
  |.neq=>.eqv xy a b
  |_=>.bin op a b
 else match op with
  |.eql=>(Qs P T a b).getD (.bin op a b)
  |.neq=>((Qs P T a b).map (.un .not)).getD (.bin op a b)
  |_=>.bin op a b
def B8(c:Ctx)(g:Gam)(C:ZB)(op:BinOp)(T:TypeId)(x y:Operand):PK:=
 (Yu g C x).bind λa=>(Yu g C y).map λb=>let e:=Ls c.P T op a.1 b.1;(.val e [],[e])
def IJ(g:Gam)(C:ZB)(op:UnOp)(x:Operand):PK:=(Yu g C x).map λa=>(.val (.un op a.1) [],[.un op a.1])
def IF(c:Ctx)(g:Gam)(C:ZB)(f d:TypeId)(x:Operand):PK:=
 if(c.P.underlying f).isNone then xw else
 match c.P.underlying d with
 |some (.int k)=>(Yu g C x).map λa=>(.val (.conv k a.1) [],[.conv k a.1])
 |_=>xw
def IG(c:Ctx)(g:Gam)(C:ZB)(ty:TypeId)(x:Operand)(i:Nat):PK:=
 (Yu g C x).map λa=>let y:=XA (XB c.P ty) (.ext a.1 i,a.2);(.val y.1 y.2,[y.1])
def Bf(c:Ctx)(g:Gam)(C:ZB)(T:TypeId)(a:Operand):PK:=
 if X1 c.P T then(Gi c g T (Yk g C a) (SJ a)).map λk=>(k,Cz k)else xw
def Bb(c:Ctx)(g:Gam)(C:ZB)(T:TypeId)(a:Operand)(f:Nat):PK:=
 (JJ c.P T f).bind λx=>if x.2.1=0 then xw else
  match Yk g C a with
  |.mem _=>xk (.pm (SJ a) x.1,[])
  |.pm p q=>xk (.pm p (q+x.1),[])
  |.pc e q d=>xk (.pc e (q+x.1) d,[])
  |.val e d=>xk (.pc (.star e) x.1 d,[.star e])
  |.pe p i j q k=>xk (.pe p i j (q+x.1) k,[])
  |_=>xw
def zl(c:Ctx)(g:Gam)(p:Nat)(i:Option Nat)(d:TypeId)(j:E):PK:=
 (ownAt g (RT p i)).bind λx=>if c.P.cellsOf x.1=c.P.cellsOf d/\X1 c.P d=xy then xk (.pe p i j 0 (c.P.cellsOf d),[.idx x.2 j (c.P.cellsOf d)])else xw
def Be(c:Ctx)(g:Gam)(C:ZB)(T:TypeId)(x i:Operand):PK:=
 match Vj c.P T with
 | .sl d=>(Yu g C i).bind λj=>
   match Yk g C x with
   |.ref p=>zl c g p xw d j.1
   |.refm p q=>zl c g p (xk q) d j.1
   |.val e f=>if X1 c.P d then xk (.pc (.idx e j.1 (c.P.cellsOf d)) 0 f,[.idx e j.1 (c.P.cellsOf d)])else xw
   |_=>xw
 | .ar n d=>if !X1 c.P d then xw else(Yu g C i).bind λj=>
   match Yk g C x with
   |.mem _=>xk (.pa (SJ x) 0 j.1 n (c.P.cellsOf d),[.ai (.c (.agg (List.replicate n (.bool xy)))) j.1 n 1 xh])
   |.pm p o=>xk (.pa p o j.1 n (c.P.cellsOf d),[.ai (.c (.agg (List.replicate n (.bool xy)))) j.1 n 1 xh])
   |.pc e q f=>let k:=E.ai (.flds e q (n*c.P.cellsOf d)) j.1 n (c.P.cellsOf d) xy;xk (.pc k 0 f,[k])
   |_=>xw
 |_=>xw
def Bc(c:Ctx)(g:Gam)(C:ZB)(T:TypeId)(x:Operand)(f:Nat):PK:=
 (JJ c.P T f).bind λy=>if y.2.1=0 then xw else(Yu g C x).map λa=>
  let e:=if y.2.2.1 then E.flds (.isag a.1) y.1 y.2.1 else .fld (.isag a.1) y.1
  (.val e a.2,[e])
def Bd(c:Ctx)(g:Gam)(C:ZB)(T:TypeId)(x i:Operand):PK:=
 match Vj c.P T with
 | .ar n d=>if !X1 c.P d then xw else(Yu g C x).bind λa=>(Yu g C i).map λb=>
   let e:=E.ai a.1 b.1 n (c.P.cellsOf d) (Y3 c.P d)
   (.val e a.2,[e])
 |_=>xw
def Kj(g:Gam)(C:ZB):Option Operand->Option E
 |some l=>(Yu g C l).map Prod.fst
 |none=>xk (.c (.int .i64 0))
def AG(g:Gam)(C:ZB)(a l:E)(k:Nat):Option Operand->Option E
 |some h=>(Yu g C h).map λy=>.slc a l y.1 k
 |none=>xk (.slcl a l k)
def Bo(c:Ctx)(g:Gam)(C:ZB)(T:TypeId)(x:Operand)(j f:Option Operand):PK:=
 match Vj c.P T with
 | .sl d=>if X1 c.P d then(Yu g C x).bind λa=>
   (Kj g C j).bind λl=>(AG g C a.1 l (c.P.cellsOf d) f).map λe=>(.val e a.2,[e])else xw
 |_=>xw
def B2(g:Gam)(C:ZB)(n:Nat)(ag fl:Bool)(x:Operand):Option (List (CK×E)×List Nat×List Nat):=
 match x,Yk g C x with
 |.tmp t,.own f e=>xk ([(.own f,e)],[],[t])
 |_,.nil=>xk ([(.nil,.c (.sl []))],[],[])
 |_,_=>(Yu g C x).map λd=>let a:=XA fl d;let e:=WK ag n a.1;(if ag then(List.range n).map λj=>(.fz,.fld e j)else [(.fz,e)],a.2,[])
abbrev BC:=List (CK×E)×List Nat×List Nat
def Lc(d:List V)(o n:Nat):BC:=(((d.drop o).take n).map λz=>((match z with|.sl _=>CK.nil|_=>CK.fz),E.c z),[],[])
def Iy(g:Gam)(C:ZB)(d:List V)(parts:List (Nat×Operand))(f:Nat×Nat×Bool×Bool)(i:Nat):Option BC:=
 match parts.find? (λp=>p.1==i)with
 |some p=>B2 g C f.2.1 f.2.2.1 f.2.2.2 p.2
 |none=>xk (Lc d f.1 f.2.1)
def TQ:List Nat->Bool
 | []=>xy
 |x::l=> !l.contains x&&TQ l
def Jv(g:Gam)(C:ZB)(d:List V)(parts:List (Nat×Operand)):List (Nat×Nat×Bool×Bool)->Nat->Nat->Option BC
 | [],_,o=>if o=(P d) then xk ([],[],[])else xw
 |f::r,i,o=>(Iy g C d parts f i).bind λa=>if f.1=o/\P a.1=f.2.1/\f.2.1≠0 then(Jv g C d parts r (i+1) (o+f.2.1)).map λb=>(a.1++b.1,a.2.1++b.2.1,a.2.2++b.2.2)else xw
def Lw(g:Gam)(C:ZB)(d:List V)(parts:List (Nat×Operand))(fs:List (Nat×Nat×Bool×Bool)):Option BC:=
 if TQ (parts.map (·.1))&&parts.all (λp=>decide (p.1<P fs))then Jv g C d parts fs 0 0 else xw
def OD(cs:List (CK×E)):Bool:=cs.all λc=>c.1==.fz
def yq(P:Program)(T:TypeId):Option (List (Nat×Nat×Bool×Bool)):=
 match Vj P T with
 |.st f=>xk f
 |.ar n d=>if X1 P d then xk ((List.range n).map λi=>(i*P.cellsOf d,P.cellsOf d,Y3 P d,XB P d))else xw
 |_=>xw
def IE(c:Ctx)(g:Gam)(C:ZB)(T:TypeId)(parts:List (Nat×Operand)):PK:=
 (yq c.P T).bind λd=>(zeroCells c.P T).bind λf=>(Lw g C f parts d).bind λb=>
  if b.2.2.isEmpty then
   let e:=E.ag (b.1.map (·.2))
   if b.2.1.isEmpty&& !OD b.1 then xk (.ags b.1,[e])else xk (.val e b.2.1,[e])
  else xw
def Tk(c:Ctx)(f:Option Nat)(j:TypeId)(e:E)(sh:List Nat):PK:=
 match f with
 |some d=>if c.own d&&sh.isEmpty then xk (.own j e,[e])else xk (.val e sh,[e])
 |none=>xw
def Ba(c:Ctx)(g:Gam)(C:ZB)(f:Option Nat)(T:TypeId)(n:Nat)(parts:List (Nat×Operand)):PK:=
 match Vj c.P T with
 | .sl d=>(Kk g C (XB c.P d) (parts.map (·.2))).bind λj=>
   if parts.map (·.1)=List.range n/\n<256/\c.P.cellsOf d<256/\U5 c.P d=xy/\(Y3 c.P d=xy\/c.P.cellsOf d=1)then Tk c f d (.lit (j.1.map (WK (Y3 c.P d) (c.P.cellsOf d)))) j.2 else xw
 |_=>xw
def BR:Operand->Operand->Bool
 |.tmp t,.tmp u=>t==u
 |.const (.int _ x),.const (.int _ y)=>x==y
 |_,_=>xh
def Bh(c:Ctx)(g:Gam)(C:ZB)(f:Option Nat)(T:TypeId)(n m:Operand):PK:=
 match Vj c.P T with
 | .sl d=>(zeroCells c.P d).bind λz=>(Yu g C n).bind λa=>
   if BR n m&&U5 c.P d&&(Y3 c.P d||P z==1)then Tk c f d (.mk (if Y3 c.P d then .agg z else z.headD (.agg [])) a.1) []else xw
 |_=>xw
def II(c:Ctx)(g:Gam)(C:ZB)(T:TypeId)(x:Operand):PK:=
 match c.P.underlying T with
 |some (.slice _)=>(Yu g C x).map λa=>(.val (.len a.1) [],[.len a.1])
 |some (.array n _)=>xk (.val (.c (.int .i64 n)) [],[])
 |some (.map _ _)=>(Yu g C x).map λa=>(.val (.mlen a.1) [],[.mlen a.1])
 |_=>xw
def Jz(g:Gam)(C:ZB):List Operand->Option (List Nat)
 | []=>xk []
 |x::l=>match x,Yk g C x with
  |.tmp t,.mem _=>(Jz g C l).map (t:: ·)
  |_,_=>xw
def Bi(g:Gam)(C:ZB)(f:Go.Fn)(first d:List Operand):PK:=
 match f,first,d with
 |.func f,[],[]=>xk (.val (.c (.fn f)) [],[])
 |.func f,[],l=>(Jz g C l).map λj=>(.clo f j,[])
 |_,_,_=>xw
def zn(P:Program)(t:TypeId):Option KC:=
 match P.underlying t with
 |some .bool=>xk .b
 |some (.int k)=>xk (.i k)
 |some .string=>xk .s
 |_=>xw
def CL(P:Program)(t:TypeId):Option V:=
 ((P.info? t).bind (·.zero)).bind λz=>match z with
   |.agg d=>(d.toList.mapM WV).map .agg
   |v=>WV v
def jR(P:Program)(t:TypeId):Bool:=
 match P.underlying t with
 |some (.map _ _)=>xy
 |_=>xh
def Bj(c:Ctx)(T:TypeId):PK:=if jR c.P T then xk (.own T (.c (.mp 0 [] [])),[])else xw
def Ku(c:Ctx)(g:Gam)(C:ZB)(T:TypeId)(x k:Operand)(ok:Bool):PK:=
 match c.P.underlying T with
 |some (.map j d)=>(zn c.P j).bind λf=>(CL c.P d).bind λz=>(Yu g C x).bind λa=>(Yu g C k).map λb=>
   let e:=E.lk f a.1 b.1 z ok
   (.val e a.2,[e])
 |_=>xw
def Ef(P:Program)(T:TypeId):Bool:=
 match P.underlying T with
 |some (.map _ d)=>XB P d
 |_=>xh
def Bg(c:Ctx)(g:Gam)(C:ZB)(T:TypeId)(x k:Operand)(ok:Bool):PK:=
 (Ku c g C T x k ok).bind λr=>match r.1 with
 |.val e d=>let y:=XA (!ok&&Ef c.P T) (e,d);xk (.val y.1 y.2,[y.1])
 |_=>xw
def yt(g:Gam)(C:ZB)(mx:Bool)(x y:Operand):PK:=
 (Yu g C x).bind λa=>(Yu g C y).map λb=>let e:=if mx then E.mx a.1 b.1 else .mn a.1 b.1;(.val e [],[e])
def Sr(fl:Bool)(b:E×List Nat):E×List Nat:=if b.2.isEmpty then b else if fl then(.fls b.1,[])else b
def B6(c:Ctx)(g:Gam)(C:ZB)(f:Option Nat)(T U:TypeId)(x y:Operand):PK:=
 match Vj c.P T with
 |.sl j=>if T=U/\U5 c.P j=xy then
   match Yk g C x with
   | .nil=>(Yu g C y).bind λb=>
     let y:=Sr (XB c.P j) b
     if(match f with|some d=>c.own d|none=>xh)&& !y.2.isEmpty then xw else Tk c f j (.app (.c (.sl [])) y.1 (c.P.cellsOf j)) y.2
   |_=>xw
  else xw
 |_=>xw
def pk(c:Ctx)(g:Gam)(C:ZB)(o:Oper):PK:=
 match o.op with
 |.move x=>Bk g C x
 |.nilCheck x=>Bl g C x
 |.assign x=>B7 c g C o.type x
 |.alloc T=>B5 c T
 |.box T x=>B9 c g C T x
 |.binOp op T x y _=>B8 c g C op T x y
 |.unOp op _ x=>IJ g C op x
 |.convert l j x=>IF c g C l j x
 |.extract x i=>IG c g C o.type x i
 |.load T a=>Bf c g C T a
 |.fieldAddr T a f=>Bb c g C T a f
 |.indexAddr T x i=>Be c g C T x i
 |.field T x f=>Bc c g C T x f
 |.index T x i=>Bd c g C T x i
 |.slice T x q p xw=>Bo c g C T x q p
 |.build T parts=>IE c g C T parts.toList
 |.buildSlice T n parts=>Ba c g C o.dst T n parts.toList
 |.makeSlice T n m=>Bh c g C o.dst T n m
 |.makeFunc f first d=>Bi g C f first.toList d.toList
 |.makeMap T xw=>Bj c T
 |.lookup T x k ok=>Bg c g C T x k ok
 | .call {callee:=.builtin .len,args,argTypes}=>match args.toList,argTypes.toList with
   | [x],[T]=>II c g C T x
   |_,_=>xw
 | .call {callee:=.builtin .min,args, .. }=>match args.toList with
   | [x,y]=>yt g C xh x y
   |_=>xw
 | .call {callee:=.builtin .max,args, .. }=>match args.toList with
   | [x,y]=>yt g C xy x y
   |_=>xw
 | .call {callee:=.builtin .append,args,argTypes}=>match args.toList,argTypes.toList with
   | [x,y],[T,U]=>B6 c g C o.dst T U x y
   |_,_=>xw
 |_=>xw
inductive FN where
 |id (f:FuncId)
 |e (x:E)
 deriving Inhabited
def FN.es:FN->List E
 |.id _=>[]
 |.e x=>[x]
inductive EF where
 |lt (i:Nat) (C:ZB) (e:E)
 |call (i:Nat) (C:ZB) (f:FN) (fr fl:Bool) (args:List E)
 |callm (i:Nat) (C:ZB) (f:FN) (ks:List OT) (args:List E)
 deriving Inhabited
inductive OV where
 |v (e:E)
 |m (l:List E)
 |no
 deriving Inhabited
structure Reg where
 efs:List EF
 chks:List (ZB×E)
 outs:List (Nat×OV)
 deriving Inhabited
structure OS where
 d:Gam
 ps:List Nat
 rb:List Nat
 fz:List Nat
 efs:List EF
 chks:List (ZB×E)
 deriving Inhabited
def F1:CK->CK
 |.own _=>.fz
 |k=>k
def Rq:TK->TK
 |.own _ e=>.val e []
 |.ags d=>if Wi d then .no else .val (.ag (d.map (·.2))) []
 |.mem d=>.mem (d.map λc=>(F1 c.1,c.2))
 |k=>k
def QE(fz:List Nat):TK->Bool
 |.pe q _ _ _ _=>fz.contains q
 |_=>xh
def Un(p:Nat):TK->Bool
 |.val _ d=>d.contains p
 |.ref q=>p==q
 |.refm q _=>p==q
 |.pc _ _ d=>d.contains p
 |.pe q _ _ _ _=>p==q
 |.big _ d=>d.contains p
 |_=>xh
def leads(p:Nat):TK->Bool
 |.pa q _ _ _ _=>p==q
 |.pm q _=>p==q
 |.clo _ d=>d.contains p
 |_=>xh
def Va(ps rb fz:List Nat)(k:TK):Bool:= !(ps.any λp=>Un p k)&& !(rb.any λp=>leads p k)&& !QE fz k
def XW(ps rb fz:List Nat)(g:Gam):Gam:=g.filterMap λx=>if Va ps rb fz x.2.2 then xw else xk (x.1,[],.no)
def VT(fz:List Nat)(g:Gam):Gam:=fz.map λp=>(p,(g.at p).1,Rq (g.at p).2)
def frz(fz:List Nat)(g:Gam):Gam:=XW [] [] fz g++VT fz g++g
def ZQ(g:Gam):List Nat:=g.map (·.1)
structure MS where
 d:Gam
 ps:List Nat
 rb:List Nat
 fz:List Nat
 es:List E
 deriving Inhabited
def SA(g:Gam)(fl:Bool)(x:Operand):Option (E×List Nat):=(Yu g [] x).map λd=>XA fl d
def J8(cs:List (CK×E))(o:Nat)(new:List (CK×E)):List (CK×E):=cs.take o++new++cs.drop (o+P new)
def Ug(g:Gam)(p o:Nat)(new:List (CK×E)):Option TK:=
 (memOf g p).bind λd=>if o+P new<=(P d) then xk (.mem (J8 d o new))else xw
def Fa(c:Ctx)(g:Gam)(d:Nat):TK->Option (Nat×TypeId×E)
 |.ref p=>if c.tr.contains d&&p !=d then(ownOf g p).map λy=>(p,y.1,y.2)else xw
 |_=>xw
def zG(c:Ctx)(g:Gam)(ty:TypeId)(d:Nat)(x:Operand):Option MS:=
 match x,Yk g [] x with
 |.tmp t,.own ty e=>if t=d\/(g.at t).1≠[]then xw else xk {d:=[(d,[],.own ty e),(t,[],.no)],ps:=[d,t],rb:=[d,t],fz:=[],es:=[]}
 |.tmp t,.mem f=>if t=d\/(g.at t).1≠[]then xw else xk {d:=[(d,[],.mem f),(t,[],.no)],ps:=[d,t],rb:=[d,t],fz:=[],es:=[]}
 | .tmp _,.pm p 0=>if c.tr.contains d&&p !=d then(memOf g p).bind λf=>if Wi f then xw else
   xk {d:=[(d,[],.val (.pt xw (f.map (·.2))) []),(p,[],.no)],ps:=[d,p],rb:=[d,p],fz:=[],es:=[.pt xw (f.map (·.2))]}else xw
 |_,.nil=>xk {d:=[(d,[],.nil)],ps:=[d],rb:=[d],fz:=[],es:=[]}
 |_,k=>match Fa c g d k with
  |some (p,ty,e)=>xk {d:=[(d,[],.own ty e),(p,[],.no)],ps:=[d,p],rb:=[d,p],fz:=[],es:=[]}
  |none=>(SA g (XB c.P ty) x).map λa=> {d:=[(d,[],.val a.1 [])],ps:=[d],rb:=[d],fz:=a.2,es:=[a.1]}
def zJ(c:Ctx)(g:Gam)(T:TypeId)(p o:Nat)(x:Operand):Option MS:=
 let n:=c.P.cellsOf T
 if Y3 c.P T then
  match x,Yk g [] x with
  |.tmp t,.ags f=>if P f=n/\t≠p/\(g.at t).1=[]then(Ug g p o f).map λk=> {d:=[(p,[],k),(t,[],.no)],ps:=[p,t],rb:=[t],fz:=[],es:=[]}else xw
  |_,_=>(SA g (XB c.P T) x).bind λa=>let e:=WK xy n a.1;(Ug (frz a.2 g) p o ((List.range n).map λj=>(CK.fz,E.fld e j))).map λk=> {d:=[(p,[],k)],ps:=[p],rb:=[],fz:=a.2,es:=[e]}
 else match x,Yk g [] x with
  |.tmp t,.own l e=>if t≠p/\(g.at t).1=[]then(Ug g p o [(.own l,e)]).map λk=> {d:=[(p,[],k),(t,[],.no)],ps:=[p,t],rb:=[t],fz:=[],es:=[]}else xw
  |_,.nil=>(Ug g p o [(.nil,.c (.sl []))]).map λk=> {d:=[(p,[],k)],ps:=[p],rb:=[],fz:=[],es:=[]}
  |_,_=>(SA g (XB c.P T) x).bind λa=>let e:=y5 a.1;(Ug (frz a.2 g) p o [(.fz,e)]).map λk=> {d:=[(p,[],k)],ps:=[p],rb:=[],fz:=a.2,es:=[e]}
def Al(c:Ctx)(g:Gam)(T:TypeId)(p:Nat)(i:Option Nat)(j:E)(o k:Nat)(x:Operand):Option MS:=
 (SA g (XB c.P T) x).bind λa=>let e:=WK (Y3 c.P T) (c.P.cellsOf T) a.1;let g:=frz a.2 g
  if a.2.contains p then xw else
  match i with
  |none=>(ownOf g p).bind λx=>let f:=E.upd x.2 j o e;if c.P.cellsOf x.1=k then xk {d:=[(p,[],.own x.1 f)],ps:=[p],rb:=[],fz:=a.2,es:=[f]}else xw
  |some q=>(memOf g p).bind λn=>match n[q]? with
   |some (.own l,r)=>let f:=E.upd r j o e;if c.P.cellsOf l=k then(Ug g p q [(.own l,f)]).map λk=> {d:=[(p,[],k)],ps:=[p],rb:=[],fz:=a.2,es:=[f]}else xw
   |_=>xw
def Ak(c:Ctx)(g:Gam)(T:TypeId)(p o:Nat)(j:E)(n k:Nat)(x:Operand):Option MS:=
 (SA g (XB c.P T) x).bind λf=>let a:=(WK (Y3 c.P T) (c.P.cellsOf T) f.1,f.2);if !a.2.isEmpty||c.P.cellsOf T≠k then xw else
  (memOf g p).bind λq=>
   let part:=(q.drop o).take (n*k)
   if P part=n*k/\part.all (λx=>x.1==.fz)then
    let l:=E.aput (if UL (c.ix p) o part then .mm (c.ix p) o (n*k)else .ag (part.map (·.2))) j n k a.1
    (Ug g p o ((List.range (n*k)).map λi=>(CK.fz,E.fld l i))).map λk=> {d:=[(p,[],k)],ps:=[p],rb:=[],fz:=[],es:=[l]}
   else xw
def Ag(c:Ctx)(g:Gam)(d:Nat)(T:TypeId)(parts:List (Nat×Operand)):Option MS:=
 (yq c.P T).bind λj=>(zeroCells c.P T).bind λk=>(Lw g [] k parts j).bind λb=>
  let f:=b.2.2
  if f.any (λt=>b.2.1.contains t||t==d|| !(g.at t).1.isEmpty)|| !TQ f then xw else
  xk {d:=(d,[],.ags b.1)::f.map λt=>(t,[],.no),ps:=d::f,rb:=d::f,fz:=b.2.1,es:=[.ag (b.1.map (·.2))]}
def GF(c:Ctx)(g:Gam)(T:TypeId)(a x:Operand):Option MS:=
 if !X1 c.P T|| !(Y3 c.P T||c.P.cellsOf T==1)then xw else
 match Yk g [] a with
 |.mem _=>zJ c g T (SJ a) 0 x
 |.pm p o=>zJ c g T p o x
 |.pe p i j o k=>Al c g T p i j o k x
 |.pa p o j n k=>Ak c g T p o j n k x
 |_=>xw
def Ae(c:Ctx)(g0:Gam)(d:Nat)(T U:TypeId)(x y:Operand):Option MS:=
 match Vj c.P T with
 |.sl j=>if T=U/\U5 c.P j=xy then
   (Yu g0 [] y).bind λn=>
    let b:=Sr (XB c.P j) n;let g:=frz b.2 g0
    match x,Yk g [] x with
    |_,.nil=>let f:=E.app (.c (.sl [])) b.1 (c.P.cellsOf j);xk {d:=[(d,[],.own j f)],ps:=[d],rb:=[d],fz:=b.2,es:=[f]}
    |.tmp t,.own l e=>if l=j/\t≠d/\(g.at t).1=[]then let f:=E.app e b.1 (c.P.cellsOf j);xk {d:=[(d,[],.own l f),(t,[],.no)],ps:=[d,t],rb:=[d,t],fz:=b.2,es:=[f]}else xw
    |_,.ref p=>(ownOf g p).bind λx=>if x.1=j/\p≠d then let f:=E.app x.2 b.1 (c.P.cellsOf j);xk {d:=[(d,[],.own x.1 f),(p,[],.no)],ps:=[d,p],rb:=[d,p],fz:=b.2,es:=[f]}else xw
    |_,.refm p i=>(memOf g p).bind λo=>match o[i]? with
     |some (.own l,e)=>if l=j/\p≠d then let f:=E.app e b.1 (c.P.cellsOf j);(Ug g p i [(.dead,.c (.sl []))]).map λk=> {d:=[(d,[],.own l f),(p,[],k)],ps:=[d,p],rb:=[d],fz:=b.2,es:=[f]}else xw
     |_=>xw
    |_,_=>xw
  else xw
 |_=>xw
def Af(c:Ctx)(g:Gam)(d:Nat)(T:TypeId)(x:Operand):Option MS:=
 match x,Yk g [] x with
 |.tmp t,.own j e=>if t≠d/\(g.at t).1=[]then xk {d:=[(d,[],.mem [(.own j,e)]),(t,[],.no)],ps:=[d,t],rb:=[d,t],fz:=[],es:=[]}else xw
 |.tmp t,.ags f=>if t≠d/\(g.at t).1=[]then xk {d:=[(d,[],.mem f),(t,[],.no)],ps:=[d,t],rb:=[d,t],fz:=[],es:=[]}else xw
 |_,_=>xw
def A9(g:Gam)(x:Operand):Option (Nat×Option Nat×TypeId×E):=
 match x,Yk g [] x with
 |.tmp t,.own d e=>if(g.at t).1=[]then xk (t,xw,d,e)else xw
 |_,.ref p=>(ownOf g p).map λy=>(p,xw,y.1,y.2)
 |_,.refm p i=>(memOf g p).bind λf=>match f[i]? with
  |some (.own d,e)=>xk (p,xk i,d,e)
  |_=>xw
 |_,_=>xw
def IT(g:Gam)(p:Nat)(i:Option Nat)(ty:TypeId)(e:E):Option TK:=
 match i with
 |none=>xk (.own ty e)
 |some i=>Ug g p i [(.own ty,e)]
def zI(g:Gam)(T:TypeId)(m:Operand)(f:E->E):Option MS:=
 (A9 g m).bind λx=>if x.2.2.1=T then(IT g x.1 x.2.1 T (f x.2.2.2)).map λk=> {d:=[(x.1,[],k)],ps:=[x.1],rb:=[],fz:=[],es:=[f x.2.2.2]}else xw
def Aj(c:Ctx)(g:Gam)(T:TypeId)(m k v:Operand):Option MS:=
 match c.P.underlying T with
 |some (.map f _)=>(zn c.P f).bind λd=>(Yu g [] k).bind λb=>(Yu g [] v).bind λa=>if !a.2.isEmpty then xw else zI g T m λe=>.mput d e b.1 a.1
 |_=>xw
def Ah(c:Ctx)(g:Gam)(T:TypeId)(m:Operand):Option MS:=if jR c.P T then zI g T m .mclr else xw
def mk(c:Ctx)(g:Gam)(o:Oper):Option MS:=
 match o.op,o.dst with
 |.assign x,xk d=>zG c g o.type d x
 |.move x,xk d=>zG c g o.type d x
 |.store T a x,xw=>GF c g T a x
 |.build T parts,xk d=>Ag c g d T parts.toList
 |.box T x,xk d=>Af c g d T x
 |.mapUpdate T m k v,xw=>Aj c g T m k v
 | .call {callee:=.builtin .clear,args,argTypes},xw=>match args.toList,argTypes.toList with
   | [x],[T]=>Ah c g T x
   |_,_=>xw
 | .call {callee:=.builtin .append,args,argTypes},xk d=>match args.toList,argTypes.toList with
   | [x,y],[T,U]=>Ae c g d T U x y
   |_,_=>xw
 |_,_=>xw
def LD(c:Ctx)(ops:Array Oper)(g:Gam)(o:Oper):Option ZB:=
 match o.guard with
 |none=>xk []
 |some (j,d)=>((ops[j]?).bind (·.dst)).bind λt=>match g.at t with
  |(C,.val (.s u) [])=>if u=c.ix t then xk (C++[(t,d)])else xw
  |_=>xw
def ZE(c:Ctx)(C:ZB):ZB:=C.map λx=>(c.ix x.1,x.2)
def Bn(c:Ctx)(g:Gam)(C:ZB)(x a b:Operand):PK:=
 match x,Yk g C x with
 | .tmp t,.val (.s u) []=>if u≠c.ix t then xw else(Yu g (C++[(t,xy)]) a).bind λy=>(Yu g (C++[(t,xh)]) b).map λz=>
   let e:=E.ite (.s (c.ix t)) y.1 z.1
   (.val e (y.2++z.2),[e])
 |_,_=>xw
def qK(g:Gam)(C:ZB)(o:Oper):Option (FN×List Nat×List Operand×List TypeId):=
 match o.op with
 |.call {callee:=.value (.func f),args,argTypes}=>xk (.id f,[],args.toList,argTypes.toList)
 | .call {callee:=.value (.tmp t),args,argTypes}=>match Yk g C (.tmp t)with
   |.val e d=>xk (.e e,d,args.toList,argTypes.toList)
   |_=>xw
 |_=>xw
def Z4s(g:Gam)(t:Nat):Bool:=
 match(g.at t).2 with
 |.own .. |.mem _=>xy
 |_=>xh
def G9:TK->List Nat
 |.ref p|.refm p _|.pm p _|.pe p _ _ _ _|.pa p _ _ _ _=>[p]
 |.val _ f|.pc _ _ f|.big _ f=>f
 |.clo _ d=>d
 |_=>[]
def Z1f(ops:Array Oper)(o:Oper):List Nat:=
 match o.guard with
 |none=>[]
 |some (j,_)=>((ops[j]?).bind (·.dst)).toList
def UE(ops:Array Oper)(g:Gam)(o:Oper):List Nat:=
 let d:=(o.op.operands.toList.filterMap λx=>match x with|.tmp t=>xk t|_=>xw)++Z1f ops o++o.dst.toList;let f:=d++d.flatMap λt=>G9 (g.at t).2
 f++f.flatMap λt=>G9 (g.at t).2
def only(g:Gam)(R:List Nat):Gam:=R.map λt=>(t,g.at t)
def Qz(c:Ctx):FN->Bool
 |.id f=>c.fresh f
 |.e _=>xh
def Cd(c:Ctx)(g:Gam)(C:ZB)(ty:TypeId)(d:Nat)(f:FN)(sh:List Nat)(args:List Operand)(ts:List TypeId):Option OS:=
 if !(g.at d).2.isNo then xw else(Ju c.P g C args ts).map λaq_=>
  let fl:=(!(aq_.2.1++sh).isEmpty||aq_.2.2)&& !Qz c f&&XB c.P ty
  {d:=[(d,C,if aq_.2.2&& !(fl||Qz c f)then .big (.s (c.ix d)) (aq_.2.1++sh)else .val (.s (c.ix d)) (if fl||Qz c f then []else aq_.2.1++sh))],ps:=[d],rb:=[d],fz:=[],efs:=[.call (c.ix d) (ZE c C) f (Qz c f) fl aq_.1],chks:=[]}
inductive AP where
 |op (x:Operand) (ty:TypeId)
 |cap (p:Nat)
 deriving Inhabited
def TL(P:Program):CK->CK->Bool
 |.own a,.own b=>a==b
 |.nil,.own a=>decide (0<P.cellsOf a)
 |.nil,.nil|.nil,.fz|.fz,.fz|.own _,.fz=>xy
 |_,.dead=>xy
 |_,_=>xh
def QI(P:Program):List CK->List CK->Bool
 | [],[]=>xy
 |a::l,b::r=>TL P a b&&QI P l r
 |_,_=>xh
def QT(P:Program):List CK->List CK->Bool
 | [],[]=>xy
 |a::l,b::r=>(a==b||(match a,b with|.nil,.own d=>decide (0<P.cellsOf d)|.nil,.fz=>xy|_,_=>xh))&&QT P l r
 |_,_=>xh
def Ca(g:Gam)(C:ZB):AP->Option Nat
 |.cap p=>xk p
 | .op (.tmp t) _=>match Yk g C (.tmp t)with
   |.mem _=>xk t
   |.pm p 0=>xk p
   |_=>xw
 |_=>xw
def MQ(g:Gam)(C:ZB):AP->Option Nat
 | .op (.tmp t) _=>match Yk g C (.tmp t)with
   |.own _ _=>xk t
   |.ref p=>xk p
   |_=>xw
 |_=>xw
def SL(c:Ctx)(g:Gam)(C:ZB)(k:OT)(x:AP):Option (E×Option Nat):=
 match k with
 | .fz=>match x with
   |.op x f=>(Yu g C x).bind λj=>let a:=XA (XB c.P f) j;if a.2.isEmpty then xk (a.1,xw)else xw
   |.cap _=>xw
 | .mem l=>(Ca g C x).bind λp=>(memOf g p).bind λd=>
   if !Wi d&&QT c.P (d.map (·.1)) l then xk (.ag (d.map (·.2)),xk p)else xw
 |.own f=>(MQ g C x).bind λp=>(ownOf g p).bind λy=>if y.1=f then xk (y.2,xk p)else xw
 |_=>xw
def UJ(c:Ctx)(g:Gam)(C:ZB):List OT->List AP->Option (List (E×Option Nat))
 | [],[]=>xk []
 |k::d,x::l=>(SL c g C k x).bind λa=>(UJ c g C d l).map (a:: ·)
 |_,_=>xw
def Ka(i q:Nat):OT->TK
 |.mem l=>.mem (l.zipIdx.map λx=>(x.1,.fld (.ext (.s i) q) x.2))
 |.own d=>.own d (.ext (.s i) q)
 |_=>.no
def XD(i:Nat):Nat->List OT->List (E×Option Nat)->Gam
 |q,k::d,(_,xk p)::l=>(p,[],Ka i q k)::XD i (q+1) d l
 |q,_::d,(_,xw)::l=>XD i q d l
 |_,_,_=>[]
def Ce(c:Ctx)(g all:Gam)(C:ZB)(d:Nat)(fn:FN)(ks:List OT)(f:List AP):Option OS:=
 if !(g.at d).2.isNo then xw else(UJ c g C ks f).bind λaq_=>
  let ps:=aq_.filterMap (·.2)
  if !TQ ps||ps.contains d then xw else
  xk {d:=(d,C,.val (if ps.isEmpty then .s (c.ix d)else .ext (.s (c.ix d)) 0) [])::XD (c.ix d) 1 ks aq_++XW (d::ps) [d] [] all,ps:=d::ps,rb:=[d],fz:=[],
        efs:=[.callm (c.ix d) (ZE c C) fn ks (aq_.map (·.1))],chks:=[]}
def V7(args:List Operand)(ts:List TypeId):List AP:=
 match args,ts with
 |x::l,t::r=>.op x t::V7 l r
 |x::l,[]=>.op x 0::V7 l []
 | [],_=>[]
def qJ(c:Ctx)(g:Gam)(C:ZB)(o:Oper):Option (FN×List OT×List AP):=
 match o.op with
 |.call {callee:=.value (.func f),args,argTypes}=>(c.sig f).map λj=>(.id f,j,V7 args.toList argTypes.toList)
 | .call {callee:=.value (.tmp t),args,argTypes}=>match Yk g C (.tmp t)with
   |.clo f d=>(c.sig f).map λj=>(.id f,j,V7 args.toList argTypes.toList++d.map .cap)
   |.val e _=>(c.sig (1000000+argTypes.toList.headD 0)).map λj=>(.e e,j,V7 args.toList argTypes.toList)
   |_=>xw
 |_=>xw
def Z0w(g:Gam)(o:Oper):Bool:=match o.dst with|some d=>Z4s g d|none=>xy
def Z0v(g:Gam)(o:Oper):Bool:=match o.dst with|some d=> !(g.at d).2.isNo|none=>xy
def Ed(o:Oper)(ps:List Nat):Bool:=match o.dst with|some d=>ps.contains d|none=>xy
def Ec(c:Ctx)(o:Oper):Bool:=match o.dst with|some d=> !decide (d<c.n)|none=>xh
def Z3x(c:Ctx)(g:Gam)(C:ZB)(o:Oper)(x:Operand):Bool:=match o.dst,Yk g C x with
 |some d,.own .. =>c.kp.contains d
 |_,_=>xh
def Bm(c:Ctx)(g:Gam)(C:ZB)(o:Oper):PK:=
 match o.op with
 |.pick x a b=>Bn c g C x a b
 |.assign _=>if Z0w g o then xw else pk c g C o
 |.move x=>if Z0v g o then xw else if Z3x c g C o x then(Yu g C x).map λb=>(.val b.1 b.2,[b.1])else pk c g C o
 |_=>pk c g C o
def Ch(c:Ctx)(f:List Nat)(g:Gam)(C:ZB)(d:Nat)(k:TK)(es:List E):Option OS:=
 if f.contains d then
  match k with
  |.val e []=>if !(g.at d).2.isNo then xw else xk {d:=[(d,C,.val (.s (c.ix d)) [])],ps:=[d],rb:=[d],fz:=[],efs:=[.lt (c.ix d) (ZE c C) e],chks:=es.map λe=>(ZE c C,e)}
  |_=>xw
 else if Un d k||leads d k then xw else xk {d:=[(d,C,k)],ps:=[d],rb:=[d],fz:=[],efs:=[],chks:=es.map λe=>(ZE c C,e)}
def Cg(g all:Gam)(m:MS):OS:= {d:=m.d++XW m.ps m.rb m.fz all++VT m.fz g,ps:=m.ps,rb:=m.rb,fz:=m.fz,efs:=[],chks:=m.es.map λe=>([],e)}
def Q4(c:Ctx)(j:List Nat)(ops:Array Oper)(all:Gam)(o:Oper):Option OS:=
 let g:=only all (UE ops all o)
 if Ec c o then xw else
 (LD c ops g o).bind λC=>
 match qJ c g C o,o.dst with
 |some (fn,q,l),xk d=>Ce c g all C d fn q l
 |some _,xw=>xw
 |none,_=>
 match qK g C o,o.dst with
 |some (f,r,args,t),xk d=>Cd c g C o.type d f r args t
 |some _,xw=>xw
 |none,_=>match Bm c g C o,o.dst with
  |some (k,n),xk d=>Ch c j g C d k n
  |_,_=>if o.guard.isSome then xw else(mk c g o).bind λm=>if m.ps.all (λp=>(ZQ m.d).contains p)&&m.rb.all (λp=>m.ps.contains p)&&Ed o m.ps then xk (Cg g all m)else xw
def Z4o(ops:Array Oper):List Nat:=
 ops.toList.filterMap λo=>match o.op,o.dst with
  |.assign (.tmp t),xk _=>xk t
  |.store _ _ (.tmp t),_=>xk t
  |.call {callee:=.builtin .append,args, .. },_=>match args.toList with|.tmp t::_=>xk t|_=>xw
  |_,_=>xw
def Ho(ops:Array Oper):List Nat:=
 let l:=Z4o ops
 l++ops.toList.flatMap λo=>match o.op,o.dst with
  |.build _ parts,xk d=>if l.contains d then parts.toList.filterMap λx=>match x.2 with|.tmp t=>xk t|_=>xw else []
  |_,_=>[]
def zq(ops:Array Oper):List Nat:=
 ops.toList.filterMap λo=>match o.guard with
  |some (j,_)=>(ops[j]?).bind (·.dst)
  |none=>xw
structure XS where
 os:OS
 R:List Nat
 T:List Nat
 deriving Inhabited
def D9(xs:List XS)(e:Nat):List Nat:=match xs[e]? with|some x=>x.T|none=>[]
def Sq(o:Oper):List Nat:=(o.after.toList.filter λe=>Region.binds .any e).map (·.on)
def Jh(d:Bool)(xs:List XS)(o:Oper):List Nat:=
 if d then(List.range (P xs)).filter λj=>(Sq o).any λe=>e==j||(D9 xs e).contains j
 else List.range (P xs)
def Jc(c:Ctx)(f:Bool)(j:List Nat)(ops:Array Oper):List Oper->Gam->List XS->Option (Gam×List XS)
 | [],g,k=>xk (g,k)
 |o::l,g,k=>if f&& !(Sq o).all (λe=>decide (e<P k))then xw else(Q4 c j ops g o).bind λos=>Jc c f j ops l (os.d++g) (k++[{os,R:=UE ops g o,T:=Jh f k o}])
def KG(f:OS)(g:Gam):Bool:=g.all λx=>(ZQ f.d).contains x.1||Va f.ps f.rb f.fz x.2.2
def qz(a b:List Nat):Bool:=a.all λt=> !b.contains t
def zX(x:XS)(i:Nat)(y:XS)(j:Nat):Bool:=
 j==i||((y.T.contains i||KG x.os y.os.d)&&(x.T.contains j||y.T.contains i||(qz (ZQ y.os.d) (ZQ x.os.d)&&qz (ZQ y.os.d) x.R)))
def AC(g0:Gam)(xs:List XS):Bool:=
 xs.zipIdx.all λx=>(x.1.os.ps.all λp=>(ZQ x.1.os.d).contains p)&&(x.1.os.fz.all λp=>(ZQ x.1.os.d).contains p)&&KG x.1.os g0&&
  (x.1.T.all λj=>j<x.2)&&xs.zipIdx.all λy=>zX x.1 x.2 y.1 y.2
abbrev SS:=List (Nat×OT)
def Qr(c:Ctx)(t:Nat):OT->TK
 |.fz=>.val (.s (c.ix t)) []
 |.own j=>.own j (.s (c.ix t))
 |.nil=>.nil
 |.mem l=>.mem (l.zipIdx.map λx=>(x.1,.m (c.ix t) x.2))
 |.clo f d=>.clo f d
def Yo(c:Ctx)(S:SS):Gam:=S.map λx=>(x.1,[],Qr c x.1 x.2)
def WE:TK->Option OT
 |.val _ _=>xk .fz
 |.own k _=>xk (.own k)
 |.nil=>xk .nil
 |.mem j=>xk (.mem (j.map (·.1)))
 |.clo f d=>xk (.clo f d)
 |_=>xw
def Vd(keep:List Nat)(g:Gam):List Nat:=keep.flatMap λt=>match g.at t with
 |([],.val _ d)=>d
 |_=>[]
def Vy:TK->OV
 |.val e _=>.v e
 |.own _ e=>.v e
 |.nil=>.v (.c (.sl []))
 |.mem d=>.m (d.map (·.2))
 |_=>.no
def S9(i:Nat):OV->Bool
 |.v (.s j)=>i==j
 |.m l=>(l.zipIdx.all λx=>match x.1 with|.m j k=>i==j&&k==x.2|_=>xh)
 |_=>xh
def SK(keep:List Nat)(g:Gam):SS:=keep.filterMap λt=>if(g.at t).1.isEmpty then(WE (g.at t).2).map λk=>(t,k)else xw
def SS.at(S:SS)(t:Nat):Option OT:=
 match S with
 | []=>xw
 |(u,x)::r=>if u=t then xk x else SS.at r t
def Tj(c:Ctx)(S:SS)(g:Gam)(t:Nat):Option (Nat×OV):=
 let o:=if(g.at t).1.isEmpty then Vy (g.at t).2 else .no
 if S9 (c.ix t) o then xw
 else match S.at t,(g.at t).2 with
  |some .nil,.nil=>xw
  |none,.no=>xw
  |_,_=>xk (c.ix t,o)
def Hk(c:Ctx)(S:SS)(keep:List Nat)(g:Gam):List (Nat×OV):=keep.filterMap (Tj c S g)
def Ee:EF->List (ZB×E)
 |.lt _ C e=>[(C,e)]
 |.call _ C f _ _ aq_=>(f.es++aq_).map λe=>(C,e)
 |.callm _ C f _ aq_=>(f.es++aq_).map λe=>(C,e)
def yd:OV->List E
 |.v e=>[e]
 |.m l=>l
 |.no=>[]
def Ea(l:List (ZB×E))(x:ZB×E):Bool:=l.any λy=>Rg y.1 x.1&&E.has x.2 y.2
def yu:List (ZB×E)->List (ZB×E)->List (ZB×E)
 |_,[]=>[]
 |l,x::r=>let q:=yu l r;if Ea (l++q) x then q else x::q
def T4:EF->Nat
 |.lt i _ _=>i
 |.call i _ _ _ _ _=>i
 |.callm i _ _ _ _=>i
mutual
def E.asks(t:Nat):E->Bool
 |.s u=>t==u
 |.m u _=>t==u
 |.mm u _ _=>t==u
 |.bin _ a b|.eqv _ a b|.mn a b|.mx a b=>E.asks t a||E.asks t b
 |.idx a b _|.ai a b _ _ _|.slcl a b _|.app a b _=>E.asks t a||E.asks t b
 |.lk _ a b _ _=>E.asks t a||E.asks t b
 |.mput _ a b d=>E.asks t a||E.asks t b||E.asks t d
 |.mlen a|.mclr a=>E.asks t a
 |.un _ a|.conv _ a|.len a|.ext a _|.fld a _|.flds a _ _|.mk _ a|.star a|.isag a|.one a|.sz a _|.fl a|.fls a=>E.asks t a
 |.slc a b d _|.upd a b _ d|.aput a b _ _ d|.ite a b d=>E.asks t a||E.asks t b||E.asks t d
 |.lit l|.ag l|.pt _ l=>E.asksIn t l
 |.c _=>xh
def E.asksIn(t:Nat):List E->Bool
 | []=>xh
 |a::l=>E.asks t a||E.asksIn t l
end
def Xz(t:Nat):EF->Bool
 |.lt _ C e=>C.any (λx=>x.1==t)||E.asks t e
 |.call _ C f _ _ aq_=>C.any (λx=>x.1==t)||E.asksIn t (f.es++aq_)
 |.callm _ C f _ aq_=>C.any (λx=>x.1==t)||E.asksIn t (f.es++aq_)
def zV:List EF->Bool
 | []=>xy
 |x::l=> !Xz (T4 x) x&&l.all (λy=>T4 y !=T4 x&& !Xz (T4 y) x)&&zV l
def Z0Q(fix:List Nat)(ops:Array Oper):Bool:=ops.toList.all λo=>match o.dst with
 |some d=> !fix.contains d
 |none=>xy
def qT(P:Program)(ix:Nat->Nat)(fresh:FuncId->Bool)(sig:FuncId->Option (List OT))(tr fix:List Nat)(n:Nat)(keep:List Nat)(f:Bool)(ops:Array Oper)(S:SS):Option (Reg×SS):=
 let j:=Ho ops;let c:Ctx:= {P,ix,own:=λt=>j.contains t,fresh,sig,tr,n,kp:=keep};let g0:=Yo c S
 (Jc c f (zq ops) ops ops.toList g0 []).bind λr=>
  let k:=Vd keep r.1;let g:=frz k r.1;let outs:=Hk c S keep g;let efs:=r.2.flatMap λx=>x.os.efs;let chks:=r.2.flatMap λx=>x.os.chks;let d:=(efs.flatMap Ee)++(outs.flatMap λx=>(yd x.2).map λe=>(([]:ZB),e))
  if Z0Q fix ops&&AC g0 r.2&&zV efs&&(efs.all λx=>S.all λy=>c.ix y.1 !=T4 x)then
   xk ({efs,chks:=yu d chks,outs},SK keep g)
  else xw
end Vm
namespace Vm
open Go
inductive Stm where
 |reg (r:Reg)
 |skip
 |seq (a b:Stm)
 |cond (c:E) (a b:Stm)
 |block (id:Nat) (a:Stm)
 |loop (keep:List Nat) (a:Stm)
 |exit (id:Nat)
 |ret
 deriving Inhabited
def BD(ops:Array Oper):List Oper->List Nat->List Nat
 | [],_=>[]
 |o::l,seen=>
  (o.op.operands.toList.filterMap λx=>match x with|.tmp t=>if seen.contains t then xw else xk t|_=>xw)++
  BD ops l (match o.dst with|some d=>d::seen|none=>seen)
def Hn(ops:Array Oper):List Nat:=
 ops.toList.filterMap λo=>match o.dst,o.op with
  |some d,.assign _|some d,.alloc _|some d,.box _ _=>xk d
  |_,_=>xw
def Gc(ops:Array Oper):List Nat:=
 ops.toList.filterMap λo=>match o.dst,o.op with
  |some d,.call {callee:=.value _, .. }=>xk d
  |some d,_=>if(zq ops).contains d then xk d else xw
  |none,_=>xw
def Uu(f:Array Oper->List Nat):Code->List Nat
 |.region _ d _=>f d
 |.seq a b=>Uu f a++Uu f b
 |.cond (.tmp t) a b=>t::Uu f a++Uu f b
 |.cond _ a b=>Uu f a++Uu f b
 |.block _ a|.loop a|.scope a=>Uu f a
 |_=>[]
def JF:List Nat->List Nat->List Nat
 |d,[]=>d.reverse
 |d,t::l=>JF (if d.contains t then d else t::d) l
def pos:List Nat->Nat->Nat
 | [],_=>0
 |u::l,t=>if u=t then 0 else pos l t+1
def Te(P:Program):OT->OT->Bool
 |.own a,.own b=>a==b
 |.nil,.own a=>decide (0<P.cellsOf a)
 |.nil,.nil|.nil,.fz|.fz,.fz|.own _,.fz=>xy
 |.mem a,.mem b=>QI P a b
 |.clo f a,.clo g b=>f==g&&a==b
 |_,_=>xh
def TM(P:Program)(S R:SS):Bool:=R.all λx=>match S.at x.1 with|some k=>Te P k x.2|none=>xh
def RD(P:Program)(S:Option SS)(R:Option SS):Bool:=match S,R with|none,_=>xy|some S,xk R=>TM P S R|some _,xw=>xh
def Z3b(P:Program):CK->CK->CK
 |a,b=>if TL P a b then b else if TL P b a then a else match a,b with|.dead,_|_,.dead=>.dead|_,_=>.fz
def Z3c(P:Program):OT->OT->Option OT
 |.mem a,.mem b=>if xq a=(xq b) then xk (.mem ((a.zip b).map λx=>Z3b P x.1 x.2))else xw
 |.mem _,_|_,.mem _=>xw
 |a,b=>if Te P a b then xk b else if Te P b a then xk a else xk .fz
def GA(P:Program)(S R:SS):SS:=S.filterMap λx=>(R.at x.1).bind λk=>(Z3c P x.2 k).map λk=>(x.1,k)
def zD(P:Program):Option SS->Option SS->Option SS
 |none,b=>b
 |a,xw=>a
 |some a,xk b=>xk (GA P a b)
def Ad(P:Program):List SS->Option SS
 | []=>xw
 |S::l=>zD P (xk S) (Ad P l)
structure Flow where
 n:Option SS
 x:List (Nat×SS)
 r:List SS
structure FC where
 P:Program
 ix:Nat->Nat
 fresh:FuncId->Bool
 sig:FuncId->Option (List OT)
 tr:List Nat
 fix:List Nat
 n:Nat
 keep:List Nat
def Z12(S:SS):SS:=S.map λx=>(x.1,match x.2 with|.mem l=>.mem (l.map λk=>match k with|.own _=>.fz|k=>k)|k=>k)
def jw(P:Program)(f:SS->Option (Stm×Flow)):Nat->SS->Option SS
 |0,S=>xk S
 |k+1,S=>match f S with
  |none=>jw P f k (Z12 S)
  |some x=>match x.2.n with
  |none=>xk S
  |some R=>if TM P R S then xk S else jw P f k (GA P S R)
def comp(c:FC):Code->SS->Option (Stm×Flow)
 |.skip,S|.label _,S=>xk (.skip,⟨xk S,[],[]⟩)
 |.region _ f d,S=>(qT c.P c.ix c.fresh c.sig c.tr c.fix c.n c.keep d f S).map λx=>(.reg x.1,⟨xk x.2,[],[]⟩)
 | .seq a b,S=>(comp c a S).bind λx=>match x.2.n with
   |none=>xk x
   |some R=>(comp c b R).map λy=>(.seq x.1 y.1,⟨y.2.n,x.2.x++y.2.x,x.2.r++y.2.r⟩)
 | .cond (.tmp t) a b,S=>if S.at t=xk .fz then(comp c a S).bind λx=>(comp c b S).bind λy=>
   let M:=zD c.P x.2.n y.2.n
   if RD c.P x.2.n M&&RD c.P y.2.n M then xk (.cond (.s (c.ix t)) x.1 y.1,⟨M,x.2.x++y.2.x,x.2.r++y.2.r⟩)else xw else xw
 | .block id a,S=>(comp c a S).bind λx=>
   let M:=zD c.P x.2.n (Ad c.P ((x.2.x.filter λy=>y.1==id).map (·.2)))
   if RD c.P x.2.n M&&x.2.x.all (λy=>y.1 !=id||RD c.P (xk y.2) M)then
    xk (.block id x.1,⟨M,x.2.x.filter λy=>y.1 !=id,x.2.r⟩)else xw
 | .loop a,S=>(jw c.P (comp c a) 4 S).bind λH=>(comp c a H).bind λx=>
   if TM c.P S H&&RD c.P x.2.n (xk H)then xk (.loop (H.map λy=>c.ix y.1) x.1,⟨xw,x.2.x,x.2.r⟩)else xw
 |.exit id,S=>xk (.exit id,⟨xw,[(id,S)],[]⟩)
 |.scope a,S=>comp c a S
 |.ret,S=>xk (.ret,⟨xw,[],[S]⟩)
 |_,_=>xw
inductive RK where
 |v|ag (n:Nat)|one
 deriving Inhabited
structure Fn where
 n:Nat
 keep:List Nat
 body:Stm
 res:List (Nat×RK)
 deriving Inhabited
def KO(P:Program)(d:Nat->Nat)(f:Func):List (Nat×RK):=
 f.results.toList.map λr=>match r with|.tmp t=>(d t,.v)|.cell a t=>(d a,if Y3 P t then .ag (P.cellsOf t)else .one)
def SI(P:Program)(S:SS):ResultVar->Bool
 |.tmp t=>match S.at t with|some (.mem _)|some (.clo _ _)|none=>xh|_=>xy
 |.cell t d=>match S.at t with|some (.mem l)=>X1 P d&&l.all (λk=>k !=.dead)&&(if Y3 P d then xq l==P.cellsOf d else decide (0<xq l))|_=>xh
def TU(ks:List OT):SS:=ks.zipIdx.filterMap λx=>match x.1 with
 |.fz=>xw
 |k=>xk (x.2,k)
def SR:ResultVar->Nat
 |.tmp t=>t
 |.cell t _=>t
def SG(P:Program)(f:Func)(fin:SS)(S:SS):Bool:=f.results.toList.all (SI P S)&&TM P S fin
def Mc(f:Func)(fin:SS):Bool:=f.results.toList.all λr=>(fin.at (SR r)).isNone
def Z44(P:Program)(f:Func)(fin:SS):Option SS->Bool
 |some R=>SG P f fin R
 |none=>xy
def H6(P:Program)(d:Nat->Nat)(f:Func)(ks:List OT)(fin:SS)(fl:Flow):Bool:=
 Z44 P f fin fl.n&&fl.r.all (SG P f fin)&&fl.x.isEmpty&&(List.range (xq ks)).all (λt=>d t==t)
def Ro(ks:List OT):List Nat:=(TU ks).map (·.1)
def L7(f:Func):List Nat:=f.results.toList.filterMap λr=>match r with
 |.tmp t=>xk t
 |_=>xw
def ZK(P:Program)(fresh:FuncId->Bool)(sig:FuncId->Option (List OT))(ks:List OT)(fin:SS)(f:Func):Option Fn:=
 f.body.bind λcode=>
  let keep:=JF [] ((List.range (xq ks))++Uu (λd=>Hn d++BD d d.toList []) code);let ix:=pos (keep++JF [] ((Uu Gc code).filter λt=> !keep.contains t));let S:=ks.zipIdx.map λx=>(x.2,x.1)
  (comp {P,ix,fresh,sig,tr:=L7 f,fix:=Ro ks,n:=f.ntmps,keep} code S).bind λx=>
   if H6 P ix f ks fin x.2 then
    xk {n:=xq keep,keep,body:=x.1,res:=KO P ix f}
   else xw
end Vm
namespace Vm
open Go
structure GH where
 F:Nat->Prop
 bl:Nat->Nat->Option Nat
 K:Nat->Prop
structure Ok (B:Nat) (G:Nat->Prop) (w:World) (h:GH):Prop where
 base:B<=U (R w)
 f_lt:∀b,h.F b->b<U (R w)
 f_or:∀b,h.F b->G b\/B<=b
 g_F:∀b,G b->h.F b
 b_lt:∀t i b,h.bl t i=xk b->B<=b/\b<U (R w)/\¬h.F b
 inj:∀t i u j b,h.bl t i=xk b->h.bl u j=xk b->t=u/\i=j
 k_lt:∀b,h.K b->b<U (R w)
 k_bl:∀t i b,h.bl t i=xk b->¬h.K b
 k_F:∀b,h.F b->G b\/¬h.K b
def GH.exb(h:GH)(big:Bool)(sh:List Nat)(b:Nat):Prop:=h.F b\/∃p∈sh,∃i,(big=xy\/0<i)/\h.bl p i=xk b
def GH.ext(h:GH)(sh:List Nat)(b:Nat):Prop:=h.F b\/∃p∈sh,∃i,h.bl p (i+1)=xk b
def GH.ext_F{h:GH}{sh b}(d:h.F b):h.ext sh b:=.inl d
def GH.ext_nil{h:GH}{b}(d:h.ext [] b):h.F b:=by
 obtain d|⟨p,f,_⟩:=d;exact d;grind
def GH.ext_left{h:GH}{sh r b}(d:h.ext sh b):h.ext (sh++r) b:=by
 obtain d|⟨p,f,x⟩:=d;exact .inl d;exact .inr ⟨p,by simp[f],x⟩
def GH.ext_right{h:GH}{sh r b}(d:h.ext r b):h.ext (sh++r) b:=by
 obtain d|⟨p,f,x⟩:=d;exact .inl d;exact .inr ⟨p,by simp[f],x⟩
def Om(P:Program)(B:Nat)(w:World)(h:GH)(o:Option Nat)(ty:TypeId)(x:V)(v:Value):Prop:=
 ∃l d,x=.sl l/\0<P.cellsOf ty/\(∀y∈l,y.fits (P.cellsOf ty))/\w.ownsRow B ty (P.cellsOf ty) v (xq l) d/\v.ownBlock=o/\
  ∀(i:Nat) c,(flat l)[i]?=xk c->∃u,d[i]?=xk u/\Rd w h.F c u
def On(B:Nat)(w:World)(h:GH)(o:Option Nat)(x:V)(v:Value):Prop:=
 ∃id j k b d f,x=.mp id j k/\v=.map (xk b)/\o=xk b/\B<=b/\(id=0\/id=b+1)/\w.heap[b]?=xk (.map d f)/\P j=d.size/\P k=d.size/\
  (∀i c,j[i]?=xk c->Rd w h.F c (d.getD i default).key)/\∀i c,k[i]?=xk c->Rd w h.F c (d.getD i default).val
def OwnV(P:Program)(B:Nat)(w:World)(h:GH)(o:Option Nat)(ty:TypeId)(x:V)(v:Value):Prop:=Om P B w h o ty x v\/On B w h o x v
def SM:Option Nat->Nat
 |none=>1
 |some i=>i+1
def RelC(P:Program)(B:Nat)(s:St)(w:World)(h:GH)(o:Option Nat)(k:CK)(e:E)(v:Value):Prop:=
 match k with
 |.fz=>∃x,eval s e=xk x/\x.one=xy/\Rd w h.F x v
 |.own d=>∃x,eval s e=xk x/\OwnV P B w h o d x v
 |.nil=>v=.slice xw 0 0/\eval s e=xk (.sl [])
 |.dead=>v.oneCell'=xy
def RelCs(P:Program)(B:Nat)(s:St)(w:World)(h:GH)(t:Nat)(cs:List (CK×E))(vs:Array Value):Prop:=
 vs.size=xq cs/\∀i c,cs[i]?=xk c->RelC P B s w h (h.bl t (i+1)) c.1 c.2 (vs.getD i undef)
def RelK(P:Program)(B:Nat)(s:St)(w:World)(h:GH)(y:Nat->Option Value)(t:Nat)(v:Value):TK->Prop
 |.no=>True
 |.val e l=>∃x,eval s e=xk x/\Rd w (h.ext l) x v
 |.own z e=>∃x,eval s e=xk x/\OwnV P B w h (h.bl t 1) z x v
 |.nil=>v=.slice xw 0 0
 |.mem r=>∃b vs T,h.bl t 0=xk b/\v=.pointer (xk ⟨b,0,xw⟩)/\w.heap[b]?=xk (.cells vs T (0,0))/\RelCs P B s w h t r vs
 |.ags r=>∃vs,v=.agg vs/\RelCs P B s w h t r vs
 |.ref p=>y p=xk v
 |.refm p i=>∃b,h.bl p 0=xk b/\w.cell? ⟨b,i,xw⟩=xk v
 |.pm p o=>∃b,h.bl p 0=xk b/\v=.pointer (xk ⟨b,o,xw⟩)
 | .pc e o l=>∃x b q,∃vs:Nat->Value,eval s e=xk x/\v=.pointer (xk ⟨b,q+o,xw⟩)/\h.ext l b/\(∀c∈x.pc,c.one=xy)/\
   (∀i,i<xq x.pc->w.cell? ⟨b,q+i,xw⟩=xk (vs i))/\∀i c,x.pc[i]?=xk c->Rd w (h.ext l) c (vs i)
 |.pe p i j o k=>∃n q,h.bl p (SM i)=xk n/\(∃u,eval s j=xk (.int u (q:Nat)))/\v=.pointer (xk ⟨n,q*k+o,xw⟩)
 |.pa p o j n k=>∃b q,h.bl p 0=xk b/\(∃u,eval s j=xk (.int u (q:Nat)))/\q<n/\v=.pointer (xk ⟨b,o+q*k,xw⟩)
 |.big e l=>∃x,eval s e=xk x/\Rd w (h.exb xy l) x v
 |.clo f d=>∃vs,v=.func (.func f) #[] vs/\vs.size=xq d/\∀(i p:Nat),d[i]?=xk p->∃b,h.bl p 0=xk b/\vs[i]?=xk (.pointer (xk ⟨b,0,xw⟩))
def holds(s:St)(C:ZB):Prop:=∀x∈C,get s x.1=.v (.bool x.2)
theorem Vt s:holds s []:=λ_ h=>Zdi
def jx{s C D}:holds s (C++D)↔holds s C/\holds s D:=by
 unfold holds;constructor;simp_all;grind
def Z1m{s c C D}(h:Rg C D=xy)(f:holds s (ZE c D)):holds s (ZE c C):=by
 intro x d;simp only[ZE,ZdX]at d;obtain⟨y,j,rfl⟩:=d;refine f (c.ix y.1,y.2) ?_;simp only[Rg,ZdR]at h;simp only[ZE,ZdX];grind
structure RelG (c:Ctx) (B:Nat) (G:Nat->Prop) (s:St) (a:Act) (w:World) (h:GH) (g:Gam):Prop where
 ok:Ok B G w h
 at_:∀t,holds s (ZE c (g.at t).1)->(g.at t).2.isNo=xh->∃v,a.tmps[t]?=xk v/\RelK c.P B s w h (λp=>a.tmps[p]?) t v (g.at t).2
 skip:∀t,¬holds s (ZE c (g.at t).1)->a.tmps.getD t undef=undef
theorem Act.eval_tmp(a:Act)(t:Nat)v(h:a.tmps[t]?=xk v):a.eval (.tmp t)=v:=by
 simp_all[Act.eval,ZdK,Zec]
def Gq{g C t k}(h:look g C t=k)(d:k.isNo=xh):(g.at t).2=k/\Rg (g.at t).1 C=xy:=by
 grind [look,TK.isNo]
section
variable {c:Ctx}{B:Nat}{G:Nat->Prop}{s:St}{a:Act}{w:World}{h:GH}{g:Gam}{C:ZB}
theorem RelG.look(o:RelG c B G s a w h g)(j:holds s (ZE c C)){t k}(n:look g C t=k)(l:k.isNo=xh):
  ∃v,a.tmps[t]?=xk v/\RelK c.P B s w h (λp=>a.tmps[p]?) t v k/\(g.at t).2=k:=by
 have⟨q,f⟩:=Gq n l;have⟨v,r,d⟩:=o.at_ t (Z1m f j) ZcK;simp_all
theorem LA{v x}(d:WV v=xk x)w G:Rd w G x v:=by
 unfold WV at d;split at d<;>first
  |(simp at d;subst d;first|exact .int _ _|exact .bool _|exact .str _|exact .nil _ _ (ZeQ _)|exact .nomp|exact .nul0|exact .nul1)
  | (split at d<;>first
    | (rename_i f
       simp at d;subst d;rw[ZeN f.1,ZeN f.2];exact .fn _)
    |simp at d)
  |simp at d
theorem qP{v x}(d:WV v=xk x):x.one=xy:=by
 unfold WV at d;split at d<;>first
  |(simp at d;subst d;rfl)
  |(split at d<;>first|(simp at d;subst d;rfl)|simp at d)
  |simp at d
def OwnV.rd{P o ty x v}(W:OwnV P B w h o ty x v){G'}(r:∀b,h.F b->G' b)(O:∀b,o=xk b->G' b):Rd w G' x v:=by
 obtain⟨l,Q,rfl,Y,k,p,M,A⟩|⟨id,X,Q,b,R,q,rfl,rfl,rfl,_,hid,t,y,K,z,L⟩:=W;case inr=>exact .mp id X Q b q R hid (O b rfl) t y K (λi c f=>(z i c f).mono r) λi c f=>(L i c f).mono r
 have⟨N,S⟩:=p;obtain⟨rfl,T⟩|⟨b,cap,d,rfl,_,t,n,j,D,H⟩:=S;have:=ZeB T;subst this;exact .nil _ _ (ZeQ _);simp only[Value.ownBlock]at M;refine .sl l b 0 cap (P.cellsOf ty) (λi=>d.getD i undef) n j (O b M.symm) k (λi f=> ?_) λi c f=> ?_;rw[Zet,ZdT w b i d ty (0,0) t];have:i<d.size:=by rw[D];exact ZdS f (Zeo _ n)
 simp_all;have⟨u,I,U⟩:=A i c f;have J:d.getD i undef=u:=by
  rw[<-H,Zej]at I;split at I;simp_all;simp at I
 rw[J];exact U.mono r
def RelC.cell{P o k e v}(d:RelC P B s w h o k e v):v.oneCell'=xy:=by
 cases k with
 |fz=>have⟨x,_,f,j⟩:=d;rw[j.one_eq,f]
 |own p=>
  obtain⟨x,_,⟨l,q,_,_,_,⟨_,n⟩,_⟩|⟨_,_,_,_,_,_,_,rfl,_⟩⟩:=d;obtain⟨rfl,_⟩|⟨_,_,_,rfl,_⟩:=n<;>rfl;rfl
 |nil=>obtain⟨rfl,_⟩:=d;rfl
 |dead=>exact d
def RelC.rd{P o k e v}(f:RelC P B s w h o k e v)(u:k≠.dead){G'}(n:∀b,h.F b->G' b)(t:∀j,k=.own j->∀b,o=xk b->G' b):
  ∃x,eval s e=xk x/\x.one=xy/\Rd w G' x v:=by
 cases k with
 |fz=>have⟨x,d,q,r⟩:=f;exact⟨x,d,q,r.mono n⟩
 |own j=>
  have⟨x,d,p⟩:=f;refine⟨x,d,?_,p.rd n (t j rfl)⟩;obtain⟨l,y,rfl,_⟩|⟨_,_,_,_,_,_,rfl,_⟩:=p<;>rfl
 |nil=>obtain⟨rfl,d⟩:=f;exact⟨_,d,rfl,.nil _ _ (ZeQ _)⟩
 |dead=>simp_all
def Uv{l xs}(h:YA s l=xk xs):P xs=P l/\∀(i:Nat) e,l[i]?=xk e->∃x,xs[i]?=xk x/\eval s e=xk x:=by
 induction l generalizing xs with
 |nil=>simp only[YA,ZdF]at h;subst h;exact⟨rfl,λi e d=>Zdn⟩
 |cons e l f=>
  simp only[YA,ZdE,ZdI]at h;grind
def Em{l}(h:∀e∈l,∃x,eval s e=xk x):∃d,YA s l=xk d:=by
 induction l with
 |nil=>exact⟨[],rfl⟩
 |cons e l j=>
  have⟨x,f⟩:=h e Z1;grind [YA]
def VS{l}(h:∀x∈l,x.one=xy):flat l=l:=by
 induction l with
 |nil=>rfl
 |cons x l j=>
  rw[Sw,j λy f=>h y (by simp[f])];have d:=h x Z1;cases x<;>first|rfl|simp[V.one]at d
def RelCs.rd{P t cs vs}(L:RelCs P B s w h t cs vs)(S:Wi cs=xh){G'}(I:∀b,h.F b->G' b)(U:Us cs=xy->∀i b,h.bl t (i+1)=xk b->G' b):
  ∃x,eval s (.ag (cs.map (·.2)))=xk (.agg x)/\xq x=xq cs/\Rd w G' (.agg x) (.agg vs):=by
 have⟨M,J⟩:=L;have key:∀i k e,cs[i]?=xk (k,e)->∃x,eval s e=xk x/\x.one=xy/\Rd w G' x (vs.getD i undef):=by
  intro i k e d;refine(J i (k,e) d).rd ?_ I ?_;grind [Wi,List.any_eq_true];grind [Us,List.any_eq_true]
 have⟨p,r⟩:=Em (s:=s) (l:=cs.map (·.2)) (by
  intro e u;simp only[ZdX]at u;obtain⟨⟨k,R⟩,T,rfl⟩:=u;grind [List.getElem?_of_mem])
 have⟨K,N⟩:=Uv r;have q:xq p=xq cs:=by simpa using K
 have f:∀i x,p[i]?=xk x->x.one=xy/\Rd w G' x (vs.getD i undef):=by
  intro i x d;have j:i<xq cs:=by
   have:=(ZdH.1 d).1;omega
  have⟨y,Q,D,H⟩:=key i cs[i].1 cs[i].2 (by simp[j]);have⟨z,A,o⟩:=N i (cs[i].2) (by simp[j]);rw[d]at A;cases A;rw[Q]at o;cases o;exact⟨D,H⟩
 have n:∀x∈p,x.one=xy:=λx O=>by
  grind [List.getElem?_of_mem]
 refine⟨p,?_,q,.agg p vs Z0 n λi x d=>(f i x d).2⟩;simp_all[eval,Ts,VS]
def K6{P t b vs T cs}(l:h.bl t 0=xk b)(H:w.heap[b]?=xk (.cells vs T (0,0)))(n:RelCs P B s w h t cs vs)(D:Wi cs=xh)
  {z} (d:eval s (.pt xw (cs.map (·.2)))=xk z) {G'} (A:∀b,h.F b->G' b) (q:∀i b,h.bl t i=xk b->G' b):Rd w G' z (.pointer (xk ⟨b,0,xw⟩)):=by
 simp only[eval,ZdE]at d;have⟨I,p,d⟩:=d;simp only[Kx]at d;split at d;rename_i j;simp at d;subst d;have f:=λx k=>ZdR.1 j x k;have⟨x,k,K,o⟩:=n.rd D (G':=G') A (λ_ i b r=>q _ b r);simp only[eval,p,Ze4,Ts,VS f,ZdF,V.agg.injEq]at k;subst k;cases o with
 |agg _ _ J u y=>
  refine .ptr I b 0 (λi=>vs.getD i undef) (q 0 b l) u (λi r=> ?_) y;rw[Zet,ZdT w b i vs T (0,0) H];simp_all
 cases d
def RelG.ownOf(k:RelG c B G s a w h g){p ty e}(j:ownOf g p=xk (ty,e)):
  ∃v,a.tmps[p]?=xk v/\∃x,eval s e=xk x/\OwnV c.P B w h (h.bl p 1) ty x v:=by
 unfold Vm.ownOf at j;split at j;rename_i n o f;simp at j;obtain⟨rfl,rfl⟩:=j;have⟨v,l,d⟩:=k.at_ p (by rw[f];exact Vt s) (by rw[f];rfl);rw[f]at d;exact⟨v,l,d⟩;grind
def RelG.memOf(l:RelG c B G s a w h g){p cs}(j:memOf g p=xk cs):
  ∃b vs T,h.bl p 0=xk b/\a.tmps[p]?=xk (.pointer (xk ⟨b,0,xw⟩))/\w.heap[b]?=xk (.cells vs T (0,0))/\RelCs c.P B s w h p cs vs:=by
 unfold Vm.memOf at j;split at j;rename_i k f;simp at j;subst j;have⟨v,r,d⟩:=l.at_ p (by rw[f];exact Vt s) (by rw[f];rfl);rw[f]at d;obtain⟨b,vs,T,n,rfl,o,q⟩:=d;simp_all;grind
def IK:TK->Nat×Nat
 |.ref p=>(p,1)
 |.refm p i=>(p,i+1)
 |_=>(0,0)
def RelG.ownAt(y:RelG c B G s a w h g){k ty e}(f:ownAt g k=xk (ty,e)){t v}(r:RelK c.P B s w h (λp=>a.tmps[p]?) t v k):
  ∃x,eval s e=xk x/\OwnV c.P B w h (h.bl (IK k).1 (IK k).2) ty x v:=by
 cases k with
 |ref p=>
  have⟨u,I,x,J,F⟩:=y.ownOf f;have:u=v:=by
   have q:a.tmps[p]?=xk v:=r;rw[I]at q;cases q;rfl
  subst this;exact⟨x,J,F⟩
 |refm p i=>
  simp only[Vm.ownAt,ZdE]at f;have⟨M,D,f⟩:=f;have⟨b,vs,T,z,_,A,H,o⟩:=y.memOf D;have⟨L,j,d⟩:=r;rw[z]at j;cases j;rw[ZdT w b i vs T (0,0) A]at d;have l:vs.getD i undef=v:=by simp[ZdK,d]
  split at f;rename_i K N n;simp at f;obtain⟨rfl,rfl⟩:=f;have:=o i _ n;rw[l]at this;exact this;grind
 |_=>simp[Vm.ownAt]at f
def RelG.place(n:RelG c B G s a w h g){p i ty e}(f:Vm.ownAt g (RT p i)=xk (ty,e)):
  ∃v x,RelK c.P B s w h (λp=>a.tmps[p]?) 0 v (RT p i)/\eval s e=xk x/\OwnV c.P B w h (h.bl p (SM i)) ty x v:=by
 obtain _|i:=i;have⟨u,D,x,q,k⟩:=n.ownOf f;exact⟨u,x,D,q,k⟩;have l:=f;simp only[RT,Vm.ownAt,ZdE]at f;have⟨H,A,f⟩:=f;have⟨b,vs,T,r,_,y,o,t⟩:=n.memOf A;split at f;rename_i F I j;have z:i<vs.size:=by rw[o];exact(ZdH.1 j).1
 have d:RelK c.P B s w h (λp=>a.tmps[p]?) 0 (vs.getD i undef) (RT p (xk i)):=
  ⟨b,r,by rw[ZdT w b i vs T (0,0) y];simp_all⟩
 have⟨x,q,k⟩:=n.ownAt l d;exact⟨_,x,d,q,k⟩;grind
def DC(K:RelG c B G s a w h g){k t v}(Q:a.tmps[t]?=xk v)(r:RelK c.P B s w h (λp=>a.tmps[p]?) t v k){e sh}(d:XU g k t=xk (e,sh)):
  ∃x,eval s e=xk x/\Rd w (h.ext sh) x v:=by
 cases k with
 |val z A=>simp only[XU,ZdF,ZdU]at d;obtain⟨rfl,rfl⟩:=d;exact r
 |own L z=>
  simp only[XU,ZdF,ZdU]at d;obtain⟨rfl,rfl⟩:=d;have⟨x,y,q⟩:=r;exact⟨x,y,q.rd (λb l=>GH.ext_F l) λb l=>.inr ⟨t,Z1,0,l⟩⟩
 |nil=>
  simp only[XU,ZdF,ZdU]at d;obtain⟨rfl,rfl⟩:=d;have:=r;subst this;exact⟨.sl [],rfl,.nil _ _ (ZeQ _)⟩
 |ags I=>
  simp only[XU]at d;split at d;grind;rename_i O;simp at d;obtain⟨rfl,rfl⟩:=d;obtain⟨vs,rfl,D⟩:=r;have⟨x,y,_,M⟩:=D.rd (G':=h.ext (if Us I=xy then [t]else [])) ZcJ (λb l=>GH.ext_F l) (λq i b l=>by rw[if_pos q];exact .inr ⟨t,Z1,i,l⟩);simp_all
 |ref p=>
  simp only[XU,ownAt,ZdI]at d;have⟨⟨L,z⟩,F,d⟩:=d;simp at d;obtain⟨rfl,rfl⟩:=d;have⟨u,N,x,y,q⟩:=K.ownOf F;have:u=v:=by
   have J:a.tmps[p]?=xk v:=r;rw[N]at J;cases J;rfl
  subst this;exact⟨x,y,q.rd (λb l=>GH.ext_F l) λb l=>.inr ⟨p,Z1,0,l⟩⟩
 |refm p i=>
  simp only[XU,ZdI]at d;have⟨⟨L,z⟩,F,d⟩:=d;simp at d;obtain⟨rfl,rfl⟩:=d;have⟨x,y,q⟩:=K.ownAt F (show RelK c.P B s w h (λp=>a.tmps[p]?) t v (.refm p i)from r);exact⟨x,y,q.rd (λb l=>GH.ext_F l) λb l=>.inr ⟨p,Z1,i,l⟩⟩
 |no=>simp[XU]at d
 |mem I=>simp[XU]at d
 |pm p o=>simp[XU]at d
 |pc z o A=>simp[XU]at d
 |pe p i j o k=>simp[XU]at d
 |pa p o j n k=>simp[XU]at d
 |clo f H=>simp[XU]at d
 |big z A=>simp[XU]at d
end
end Vm
namespace Vm
open Go
open Go.RowKit (Below)
def TK.owning:TK->Bool
 |.own .. |.mem _|.ags _=>xy
 |_=>xh
structure Step (B:Nat) (ps rb fz:List Nat) (w w':World) (h h':GH):Prop where
 below:Below B w w'
 same:∀b,b<U (R w)->(∀p∈ps,∀i,h.bl p i≠xk b)->w'.heap[b]?=w.heap[b]?
 F:∀b,h.F b->h'.F b
 bl:∀t,t∉ps->t∉fz->h'.bl t=h.bl t
 fz0:∀t,t∉rb->h'.bl t 0=h.bl t 0
 fzF:∀t i b,t∉ps->t∈fz->h.bl t (i+1)=xk b->h'.F b
 K:h'.K=h.K
section
variable {P:Program}{B:Nat}{G:Nat->Prop}{s:St}{w w':World}{h h':GH}{ps rb fz:List Nat}
def Step.F_same(k:Step B ps rb fz w w' h h')(d:Ok B G w h){b}(f:h.F b):w'.heap[b]?=w.heap[b]? :=
 k.same b (d.f_lt b f) λp _ i j=>(d.b_lt p i b j).2.2 f
def Step.bl_same(l:Step B ps rb fz w w' h h')(d:Ok B G w h){t i b}(n:t∉ps)(f:h.bl t i=xk b):w'.heap[b]?=w.heap[b]? :=
 l.same b (d.b_lt t i b f).2.1 λp o j k=>n (by have:=(d.inj t i p j b f k).1;simp_all)
def Step.ext_same(l:Step B ps rb fz w w' h h')(d:Ok B G w h){sh}(k:∀p∈ps,p∉sh):Same (h.ext sh) w w':=by
 intro b f;obtain f|⟨p,o,i,n⟩:=f;exact l.F_same d f;exact l.bl_same d (λj=>k p j o) n
def Step.ext_mono(k:Step B ps rb fz w w' h h'){sh}(l:∀p∈ps,p∉sh):∀b,h.ext sh b->h'.ext sh b:=by
 intro b j;obtain j|⟨p,o,i,n⟩:=j;exact .inl (k.F b j);have d:=λd=>l p d o;by_cases f:p∈fz;exact .inl (k.fzF p i b d f n);exact .inr ⟨p,o,i,by rw[k.bl p d f];exact n⟩
def Step.exb_same(l:Step B ps rb fz w w' h h')(d:Ok B G w h){big sh}(k:∀p∈ps,p∉sh):Same (h.exb big sh) w w':=by
 intro b f;obtain f|⟨p,o,i,_,n⟩:=f;exact l.F_same d f;exact l.bl_same d (λj=>k p j o) n
def Step.exb_mono(k:Step B ps rb fz w w' h h')(q:∀t∈rb,t∈ps){big sh}(r:∀p∈ps,p∉sh):∀b,h.exb big sh b->h'.exb big sh b:=by
 intro b l;obtain l|⟨p,o,i,j,n⟩:=l;exact .inl (k.F b l);have d:=λd=>r p d o;by_cases f:p∈fz;cases i with
 |zero=>exact .inr ⟨p,o,0,j,by rw[k.fz0 p λu=>d (q p u)];exact n⟩
 |succ i=>exact .inl (k.fzF p i b d f n)
 exact .inr ⟨p,o,i,j,by rw[k.bl p d f];exact n⟩
def Z4t{e k v n xs}(f:w.ownsRow B e k v n xs)(p:∀b,v.ownBlock=xk b->w'.heap[b]?=w.heap[b]?):w'.ownsRow B e k v n xs:=by
 refine⟨f.1,?_⟩;obtain q|⟨g,cap,d,rfl,j,l,o⟩:=f.2;grind;exact .inr ⟨g,cap,d,rfl,j,by rw[p g rfl];exact l,o⟩
def OwnV.keep{o ty x v}(K:OwnV P B w h o ty x v)(t:Same h.F w w')(d:∀b,h.F b->h'.F b)(z:∀b,o=xk b->w'.heap[b]?=w.heap[b]?):OwnV P B w' h' o ty x v:=by
 obtain⟨l,y,rfl,n,p,q,j,r⟩|⟨id,L,y,b,A,k,rfl,rfl,rfl,n,hid,p,q,j,r,D⟩:=K;case inr=>exact .inr ⟨id,L,y,b,A,k,rfl,rfl,rfl,n,hid,by rw[z b rfl];exact p,q,j,λi c f=>(r i c f).keep t d,λi c f=>(D i c f).keep t d⟩
 refine .inl ⟨l,y,rfl,n,p,Z4t q (λb H=>z b (by rw[<-j];exact H)),j,λi c f=> ?_⟩;have⟨u,J,I⟩:=r i c f;exact⟨u,J,I.keep t d⟩
def RelC.keep{o k e v}(f:RelC P B s w h o k e v)(n:Same h.F w w')(d:∀b,h.F b->h'.F b)(q:∀b,o=xk b->w'.heap[b]?=w.heap[b]?):RelC P B s w' h' o k e v:=by
 cases k with
 |fz=>have⟨x,j,l,p⟩:=f;exact⟨x,j,l,p.keep n d⟩
 |own r=>have⟨x,j,l⟩:=f;exact⟨x,j,l.keep n d q⟩
 |nil=>exact f
 |dead=>exact f
def RelCs.keep{t cs vs}(j:RelCs P B s w h t cs vs)(l:Same h.F w w')(d:∀b,h.F b->h'.F b)(f:∀i,h'.bl t (i+1)=h.bl t (i+1))(p:∀i b,h.bl t (i+1)=xk b->w'.heap[b]?=w.heap[b]?):RelCs P B s w' h' t cs vs:=
 ⟨j.1,λi k o=>by rw[f];exact(j.2 i k o).keep l d λb n=>p _ b n⟩
def Z05{k}(hc:Va ps rb fz k=xy):(∀p∈ps,Un p k=xh)/\(∀p∈rb,leads p k=xh)/\QE fz k=xh:=by
 simp_all[Va,ZdJ,ZeH,ZgI,ZgU]
def RelK.keep{tm W t v k}(H:RelK P B s w h tm t v k)(l:Step B ps rb fz w w' h h')(u:Ok B G w h)(U:∀t∈rb,t∈ps)
  (L:t∉ps) (z:t∈fz->k.owning=xh) (O:Va ps rb fz k=xy) (a0:∀p,p∉ps->W p=tm p):RelK P B s w' h' W t v k:=by
 have⟨I,Q,A⟩:=Z05 O;have Y:Same h.F w w':=λb N=>l.F_same u N;cases k with
 |no=>trivial
 |val e sh=>
  have⟨x,M,r⟩:=H;have y:=λp d A=>Zdr;exact⟨x,M,r.keep (l.ext_same u y) (l.ext_mono y)⟩
 |big e sh=>
  have⟨x,M,r⟩:=H;have y:=λp d A=>Zdr;exact⟨x,M,r.keep (l.exb_same u y) (l.exb_mono U y)⟩
 |own ty e=>
  have⟨x,M,r⟩:=H;refine⟨x,M,?_⟩;have z:t∉fz:=λS=>by cases z S
  rw[l.bl t L z];exact r.keep Y l.F λb N=>l.bl_same u L N
 |nil=>exact H
 |mem cs=>
  have⟨b,vs,T,r,D,J,K⟩:=H;have z:t∉fz:=λS=>by cases z S
  exact⟨b,vs,T,by rw[l.bl t L z];exact r,D,by rw[l.bl_same u L r];exact J,K.keep Y l.F (λi=>by rw[l.bl t L z]) λi b N=>l.bl_same u L N⟩
 |ags cs=>
  have⟨vs,D,K⟩:=H;have z:t∉fz:=λS=>by cases z S
  exact⟨vs,D,K.keep Y l.F (λi=>by rw[l.bl t L z]) λi b N=>l.bl_same u L N⟩
 |ref p=>
  have d:p∉ps:=λd=>by have:=I p d;simp[Un]at this
  exact(a0 p d).trans H
 |refm p i=>
  have d:p∉ps:=λd=>by have:=I p d;simp[Un]at this
  have⟨b,r,D⟩:=H;exact⟨b,by rw[l.fz0 p (λhr=>d (U p hr))];exact r,by rw[ZeC (w:=w) (a:=⟨b,i,xw⟩) (l.bl_same u d r)];exact D⟩
 |pm p o=>
  have⟨b,r,D⟩:=H;have d:p∉rb:=λd=>by have:=Q p d;simp[leads]at this
  exact⟨b,by rw[l.fz0 p d];exact r,D⟩
 |pc e o sh=>
  have⟨x,b,q,vs,M,r,D,J,K,X⟩:=H;have y:=λp d A=>Zdr;exact⟨x,b,q,vs,M,r,l.ext_mono y b D,J,λi R=>by rw[(l.ext_same u y).cell D];exact K i R,λi ck R=>(X i ck R).keep (l.ext_same u y) (l.ext_mono y)⟩
 |pe p i j o k=>
  have d:p∉ps:=λd=>by have:=I p d;simp[Un]at this
  have Z:=λd=>by simp[QE]at A;exact A d
  have⟨n,q,r,D,J⟩:=H;exact⟨n,q,by rw[l.bl p d Z];exact r,D,J⟩
 |pa p o j n k=>
  have d:p∉rb:=λd=>by have:=Q p d;simp[leads]at this
  have⟨b,q,r,D,J,K⟩:=H;exact⟨b,q,by rw[l.fz0 p d];exact r,D,J,K⟩
 |clo f a1=>
  have⟨vs,r,D,J⟩:=H;refine⟨vs,r,D,λi p R=> ?_⟩;have⟨b,K,X⟩:=J i p R;have d:=λd=>by have:=Q p d;simp[leads]at this;exact this (ZdO R)
  exact⟨b,by rw[l.fz0 p d];exact K,X⟩
end
def PRes(c:Ctx)(B:Nat)(G:Nat->Prop)(s:St)(w:World)(h:GH)(f:Nat->Option Value)(d:Nat)(k:TK)(v:Value)(w':World):Prop:=
 ∃h',Step B [d] [d] [] w w' h h'/\Ok B G w' h'/\RelK c.P B s w' h' f d v k
section
variable {c:Ctx}{B:Nat}{G:Nat->Prop}{s:St}{a:Act}{w:World}{h:GH}{g:Gam}{C:ZB}
def Step.refl ps rb w h:Step B ps rb [] w w h h:=⟨Zef _ _,λ_ _ _=>rfl,λ_ d=>d,λ_ _ _=>rfl,λ_ _=>rfl,λ_ _ _ _ f=>(by simp at f),rfl⟩
theorem PRes.here{j d k v}(f:Ok B G w h)(l:RelK c.P B s w h j d v k):PRes c B G s w h j d k v w:=
 ⟨h,Step.refl _ _ _ _,f,l⟩
def Hd(r:RelG c B G s a w h g)(n:holds s (ZE c C)){x k}(hx:Yk g C x=k)(o:k.isNo=xh):
  (∃v,x=.const v)\/(∃t,x=.tmp t/\look g C t=k/\∃v,a.tmps[t]?=xk v/\a.eval x=v/\RelK c.P B s w h (λp=>a.tmps[p]?) t v k)\/∃f,x=.func f/\ .val (.c (.fn f)) []=k:=by
 cases x with
 |const v=>simp
 |tmp t=>
  have j:=hx;have⟨v,l,d,_⟩:=r.look n j o;exact .inr (.inl ⟨t,rfl,j,v,l,Act.eval_tmp a t v l,d⟩)
 |global q=>grind [Yk,TK.isNo]
 |func f=>exact .inr (.inr ⟨f,rfl,hx⟩)
def WD(k:RelG c B G s a w h g)(n:holds s (ZE c C)){x e sh}(d:Yu g C x=xk (e,sh)):
  ∃y,eval s e=xk y/\Rd w (h.ext sh) y (a.eval x):=by
 unfold Yu at d;cases x with
 |tmp t=>
  simp only at d;have o:(Yk g C (.tmp t)).isNo=xh:=by
   cases r:Yk g C (.tmp t)<;>first|rfl|simp_all[XU]
  have⟨v,l,j,_⟩:=k.look n rfl o;rw[Act.eval_tmp a t v l];exact DC k l j d
 |const v=>
  simp only[Yk]at d;split at d;rename_i heq;simp at heq;subst heq;simp only[XU,ZdF,ZdU]at d;obtain⟨rfl,rfl⟩:=d;exact⟨_,rfl,.nil _ _ (ZeQ _)⟩;rename_i heq;simp at heq;subst heq;split at d;rename_i x p;simp only[XU,ZdF,ZdU]at d;obtain⟨rfl,rfl⟩:=d;exact⟨x,rfl,LA p _ _⟩;grind [XU];simp_all;simp_all;grind
 |global q=>grind [Yk,XU]
 |func f=>
  simp at d;obtain⟨rfl,rfl⟩:=d;exact⟨.fn f,rfl,.fn f⟩
def RR(j:RelG c B G s a w h g)(d:holds s (ZE c C)){x e sh}(f:Yk g C x=.val e sh):
  ∃y,eval s e=xk y/\Rd w (h.ext sh) y (a.eval x):=WD j d (by unfold Yu;rw[f];rfl)
def QW(o:RelG c B G s a w h g)(l:holds s (ZE c C)){x}(j:Yk g C x=.nil):a.eval x=.slice xw 0 0:=by
 obtain⟨v,rfl⟩|⟨t,rfl,_,v,p,k,d⟩|⟨f,_,n⟩:=Hd o l j rfl;rotate_left 2;cases n;simp only[Yk]at j;split at j;rename_i heq;simp at heq;subst heq;rfl;grind;simp_all;simp_all;grind;rw[k];exact d
def Rd.F{x v}(hx:Rd w (h.ext []) x v):Rd w h.F x v:=hx.mono λ_ d=>GH.ext_nil d
theorem Rd.flat{G' G'' x v}(hx:Rd w G' x v)(d:x.flatc=xy):Rd w G'' x v:=by
 cases hx<;>first|exact .int _ _|exact .bool _|exact .str _|simp[V.flatc]at d
def Z6j{op x y z}(d:Xc op x y=xk z){G' G'' v u}(o:Rd w G' x v)(l:Rd w G'' y u)T q t:
  ∃r,(do eqGuard op T q t v u;binOp op T v u:Sem Value).run c.P w=.ok r w/\Rd w h.F z r:=by
 cases o<;>cases l<;>(try (cases op<;>simp[Xc]at d;done))
 rename_i k n A p;cases op<;>simp only[Xc]at d<;>(try split at d)<;>(try simp only[ZdF]at d)<;>(try subst d)<;>(try (simp at d;done));all_goals
  first|refine⟨.int _ _,?_,.int _ _⟩|refine⟨.bool _,?_,.bool _⟩
  first
   |(rename_i f;subst f;simp[eqGuard,binOp,Op.intArith,Op.intBits,Op.intCmp];done)
   |(rename_i f;obtain⟨rfl,j⟩:=f;simp[eqGuard,binOp,Op.intDiv,j];done)
   | (rename_i f;have:¬p<0:=by omega
      simp[eqGuard,binOp,Op.shift,this];done)
def Ms{neg x y z}(d:Ss neg x y=xk z){G' G'' v u}(l:Rd w G' x v)(k:Rd w G'' y u){T}(f:qZ c.P T=xy)n o:
  ∃r,(do eqGuard (if neg then .neq else .eql) T n o v u;binOp (if neg then .neq else .eql) T v u:Sem Value).run c.P w=.ok r w/\Rd w h.F z r:=by
 have j:c.P.underlying T=xk .bool:=by
  unfold qZ at f;split at f;assumption;simp at f
 cases l with
 |bool a=>
  cases k with
  |bool b=>
   simp only[Ss,ZdF]at d;subst d;refine⟨.bool _,?_,.bool _⟩;cases neg;simp_all[run_eql_bool,eqGuard];simp_all[run_neq_bool,eqGuard]
  |_=>simp[Ss]at d
 |_=>simp[Ss]at d
def Z6u{op x z}(d:Sc op x=xk z){G' v}(f:Rd w G' x v):∃r,(Op.unary op v).run c.P w=.ok r w/\Rd w h.F z r:=by
 cases f<;>(try (cases op<;>simp[Sc]at d;done))
 .rename_i k n;cases op<;>simp only[Sc,ZdF]at d<;>first|(simp at d;done)|skip
  subst d;exact⟨.int _ _,Zdz,.int _ _⟩
 .rename_i b;cases op<;>simp only[Sc,ZdF]at d<;>first|(simp at d;done)|skip
  subst d;exact⟨.bool _,Zdz,.bool _⟩
def Z6k{k x z}(d:Qq k x=xk z){G' v}(j:Rd w G' x v){S T}(f:(c.P.underlying S).isSome=xy)(n:c.P.underlying T=xk (.int k)):
  ∃r,(convert S T v).run c.P w=.ok r w/\Rd w h.F z r:=by
 have⟨l,f⟩:=ZeP.1 f;cases j<;>(try (simp[Qq]at d;done));simp only[Qq,ZdF]at d;subst d;exact⟨.int _ _,by simp_all[convert,Zev,Conv.intToInt],.int _ _⟩
def Z6m{x z}(d:RG x=xk z){G' v}(j:Rd w G' x v){T ty e}(f:c.P.underlying T=xk (.slice e)):
  ∃r,(Builtin.len_ #[T] ty #[v]).run c.P w=.ok r w/\Rd w h.F z r:=by
 cases j with
 |nil n cap D=>
  simp only[RG,ZdF]at d;subst d;exact⟨.int .i64 0,Zdp,.int _ _⟩
 |sl l b o cap k vs p q t u y A=>
  simp only[RG,ZdF]at d;subst d;exact⟨.int .i64 (P l),Zdp,.int _ _⟩
 |_=>simp[RG]at d
def Z6p{x y z}(d:RL x y=xk z){G' G'' v u}(j:Rd w G' x v)(f:Rd w G'' y u)ts ty:
  ∃r,(Builtin.min_ ts ty #[v,u]).run c.P w=.ok r w/\Rd w h.F z r:=by
 cases j<;>(try (simp[RL]at d;done));cases f<;>(try (simp[RL]at d;done));rename_i k n l o;simp only[RL,ZdF]at d;subst d;exact⟨.int k _,Zdz,.int _ _⟩
def Z6n{x y z}(d:RJ x y=xk z){G' G'' v u}(j:Rd w G' x v)(f:Rd w G'' y u)ts ty:
  ∃r,(Builtin.max_ ts ty #[v,u]).run c.P w=.ok r w/\Rd w h.F z r:=by
 cases j<;>(try (simp[RJ]at d;done));cases f<;>(try (simp[RJ]at d;done));rename_i k n l o;simp only[RJ,ZdF]at d;subst d;exact⟨.int k _,Zdz,.int _ _⟩
def Z6l{x z i}(d:Ty x i=xk z){G' v}(n:Rd w G' x v):∃r,(Instr.extract v i).run c.P w=.ok r w/\Rd w G' z r:=by
 cases n<;>(try (simp[Ty]at d;done));rename_i l vs j k;simp only[Ty]at d;have f:i<vs.size:=by rw[j];exact(ZdH.1 d).1
 refine⟨vs.getD i undef,?_,k i z d⟩;simp[Instr.extract,f,ZdK]
theorem VW{P T}(f:X1 P T=xy):∃d i,P.underlying T=xk d/\P.info? T=xk i/\P.cellsOf T=i.size/\∀w,(isAgg T).run P w=.ok (Y3 P T) w:=by
 simp only[X1,ZdJ]at f;have⟨d,j⟩:=ZeP.1 f.1;have⟨i,k⟩:=ZeP.1 f.2;refine⟨d,i,j,k,by simp[Program.cellsOf,k],λw=> ?_⟩;unfold isAgg Y3;rw[Zel,Zev j w,j];cases d<;>rfl
theorem U1{P T i}(d:P.info? T=xk i)w:(Go.sizeOf T).run P w=.ok i.size w:=by
 simp[Go.sizeOf,typeInfo,d]
def KT{P T}(j:X1 P T=xy)(k:Y3 P T=xh){b o v}(hc:w.cell? ⟨b,o,xw⟩=xk v):
  (Instr.loadAt T (.pointer (xk ⟨b,o,xw⟩))).run P w=.ok v w:=by
 have⟨d,i,l,n,p,f⟩:=VW j;simp_all[Instr.loadAt,Instr.sureAddr,loadVar]
def yS{P T}(k:X1 P T=xy)(l:Y3 P T=xy){b o}(vs:List Value)(t:xq vs=P.cellsOf T)(hc:∀i u,vs[i]?=xk u->w.cell? ⟨b,o+i,xw⟩=xk u):
  (Instr.loadAt T (.pointer (xk ⟨b,o,xw⟩))).run P w=.ok (.agg vs.toArray) w:=by
 have⟨d,i,n,p,x,f⟩:=VW k;have r:=run_loadCells_list (P:=P) w ⟨b,o,xw⟩ vs (λj u q=>by simp_all[Zfp]);simp_all[Instr.loadAt,Instr.sureAddr,loadVar,U1]
theorem TS{x z}(h:YP x=xk z):x=z/\z.one=xy:=by
 unfold YP at h;grind
def Z51{p cs}:∀ {i},UL p i cs=xy->∀j x,cs[j]?=xk x->x.2=E.m p (i+j):=by
 induction cs with
 |nil=>simp
 |cons y r l=>
  intro i d j x f;have⟨k,e⟩:=y;cases e<;>simp only[UL]at d<;>first|(cases d;done)|skip
  grind
theorem jc{p i cs x}(T:UL p i cs=xy)(H:0<P cs)(hx:eval s (.ag (cs.map (·.2)))=xk (.agg x))(t:∀(j:Nat) e,cs[j]?=xk e->∃y,eval s e.2=xk y/\y.one=xy):
  eval s (.mm p i (P cs))=xk (.agg x):=by
 simp only[eval,ZdI]at hx;have⟨k,M,S⟩:=hx;have⟨O,d⟩:=Uv M;have f:P k=P cs:=by simpa using O
 have J:∀j,j<P cs->∃l,get s p=.m l/\∃y,l[i+j]?=xk y/\k[j]?=xk y:=by
  intro j q;have⟨y,J,o⟩:=d j (cs[j].2) (by simp[q]);rw[Z51 T j cs[j] Z1]at o;simp only[eval]at o;split at o;rename_i l O;rw[ZdE]at o;have⟨X,o,n⟩:=o;obtain⟨rfl,_⟩:=TS n;simp_all;grind
 have⟨l,D,_⟩:=J 0 H;have K:∀j,j<P cs->l[i+j]?=k[j]? :=by
  intro j q;have⟨W,f,y,n,A⟩:=J j q;rw[D]at f;cases f;rw[n,A]
 have Q:i+P cs<=P l:=by
  have n:=K (P cs-1) Z0;have A:k[P cs-1]?=xk k[P cs-1]:=ZdG Z0;rw[A]at n;have:=(ZdH.1 n).1;omega
 have R:(l.drop i).take (P cs)=k:=by
  apply ZfF;intro j;rw[Zej];split;simp_all;simp_all
 have I:∀y∈k,y.one=xy:=by
  intro y L;have⟨j,q⟩:=Zeb L;have F:j<P cs:=by have:=(ZdH.1 q).1;omega
  have⟨z,U,N⟩:=t j cs[j] Z1;have⟨Y,u,r⟩:=d j (cs[j].2) (by simp[F]);rw[q]at u;cases u;rw[U]at r;cases r;exact N
 simp_all[Ts,V.agg.injEq,VS,eval,Zer]
def RelCs.part{P t cs vs}(j:RelCs P B s w h t cs vs){o n}(l:xq ((cs.drop o).take n)=n):
  ∀i f,((cs.drop o).take n)[i]?=xk f->RelC P B s w h (h.bl t (o+i+1)) f.1 f.2 (vs.getD (o+i) undef)/\vs[o+i]?=xk (vs.getD (o+i) undef):=by
 intro i f d;rw[Zej]at d;split at d;rw[Ze9]at d;refine⟨j.2 _ _ d,?_⟩;have k:o+i<vs.size:=by rw[j.1];exact(ZdH.1 d).1
 simp_all;grind
def RelCs.part_rd{P t cs vs}(L:RelCs P B s w h t cs vs){o n}(D:xq ((cs.drop o).take n)=n)(Z:Wi ((cs.drop o).take n)=xh){G'}(O:∀b,h.F b->G' b)
  (ho:Us ((cs.drop o).take n)=xy->∀i b,h.bl t (i+1)=xk b->G' b):
  ∃x,eval s (.ag (((cs.drop o).take n).map (·.2)))=xk (.agg x)/\xq x=n/\(∀(j:Nat) e,((cs.drop o).take n)[j]?=xk e->∃y,eval s e.2=xk y/\y.one=xy)/\
   Rd w G' (.agg x) (.agg ((vs.toList.drop o).take n).toArray)/\∀i u,((vs.toList.drop o).take n)[i]?=xk u->vs[o+i]?=xk u:=by
 have S:=L.part D;have T:xq ((vs.toList.drop o).take n)=n:=by
  have J:=L.1;simp at D⊢;omega
 have H:∀i,i<n->((vs.toList.drop o).take n)[i]?=vs[o+i]? :=by
  intro i d;rw[Zej,if_pos d,Ze9,Zf3]
 have key:∀i k e,((cs.drop o).take n)[i]?=xk (k,e)->∃x,eval s e=xk x/\x.one=xy/\Rd w G' x (vs.getD (o+i) undef):=by
  intro i k e d;refine(S i (k,e) d).1.rd ?_ O ?_;grind [Wi,List.any_eq_true];grind [Us,List.any_eq_true]
 have f:∀e∈((cs.drop o).take n).map (·.2),∃x,eval s e=xk x:=by
  intro e Q;obtain⟨⟨k,Y⟩,hm,rfl⟩:=ZdX.1 Q;grind [List.getElem?_of_mem]
 have⟨r,I⟩:=Em f;have⟨R,U⟩:=Uv I;have A:xq r=n:=by rw[R,Zek,D]
 have K:∀i x,r[i]?=xk x->x.one=xy/\Rd w G' x (vs.getD (o+i) undef):=by
  intro i x d;have l:i< xq ((cs.drop o).take n):=by
   have:=(ZdH.1 d).1;omega
  have⟨y,X,J,N⟩:=key i ((cs.drop o).take n)[i].1 ((cs.drop o).take n)[i].2 ZcJ;have⟨z,M,q⟩:=U i (((cs.drop o).take n)[i].2) ZcJ;rw[d]at M;cases M;rw[X]at q;cases q;exact⟨J,N⟩
 have p:∀x∈r,x.one=xy:=λx W=>by
  grind [List.getElem?_of_mem]
 refine⟨r,?_,A,λj e hj=> ?_,.agg r _ ZcK p λi x d=> ?_,λi u d=> ?_⟩;simp_all[eval,Ze4,Ts,VS];grind;have l:i<n:=by have:=(ZdH.1 d).1;omega
 have:((vs.toList.drop o).take n).toArray.getD i undef=vs.getD (o+i) undef:=by
  simp only[ZdK,Zfk,H i l]
 simp_all;grind
end
end Vm
namespace Vm
open Go
open Go.RowKit (Below)
section
variable {c:Ctx}{B:Nat}{G:Nat->Prop}{s:St}{a:Act}{w:World}{h:GH}{g:Gam}{C:ZB}
def Has(c:Ctx)(B:Nat)(s:St)(w:World)(h:GH)(f:Nat->Option Value)(d:Nat)(k:TK)(m:Sem Value):Prop:=
 ∃v,m.run c.P w=.ok v w/\RelK c.P B s w h f d v k
theorem jn{x z o}(h:ZX x o=xk z):x.pc[o]?=xk z:=by
 unfold ZX at h;rw[ZdE]at h;have⟨y,d,f⟩:=h;rw[d,(TS f).1]
def LU{x z o n}(h:U9 x o n=xk z):o+n<=P x.pc/\z=.agg ((x.pc.drop o).take n):=by
 simp_all[U9,ZdF]
def A6{T}(H:X1 c.P T=xy){x b q o}{vs:Nat->Value}{sh}(r:∀y∈x.pc,y.one=xy)
  (j:∀i,i<P x.pc->w.cell? ⟨b,q+i,xw⟩=xk (vs i)) (t:∀i y,x.pc[i]?=xk y->Rd w (h.ext sh) y (vs i)) {e} (D:eval s e=xk x)
  (F:∃z,eval s (if Y3 c.P T then .flds e o (c.P.cellsOf T)else .fld e o)=xk z) K d:
  Has c B s w h K d (.val (if Y3 c.P T then .flds e o (c.P.cellsOf T)else .fld e o) sh) (Instr.loadAt T (.pointer (xk ⟨b,q+o,xw⟩))):=by
 have⟨z,l⟩:=F;cases k:Y3 c.P T with
 |false=>
  rw[k]at l;simp only[ZdZ,Zeu,eval,D,ZdQ]at l⊢;have A:=jn l;have f:=(ZdH.1 A).1;exact⟨vs o,KT H k (j o f),z,by simp only[eval,D,ZdQ];exact l,t o z A⟩
 |true=>
  rw[k]at l;simp only[Zer,eval,D,ZdQ]at l⊢;obtain⟨I,rfl⟩:=LU l;have p:P ((x.pc.drop o).take (c.P.cellsOf T))=c.P.cellsOf T:=ZcL;refine⟨.agg ((List.range (c.P.cellsOf T)).map λi=>vs (o+i)).toArray,yS H k _ Z1 (λi u n=> ?_),_,by simp only[eval,D,ZdQ];exact l,?_⟩;have f:i<c.P.cellsOf T:=by simpa using(ZdH.1 n).1
  have:vs (o+i)=u:=by simpa[f]using n
  rw[<-this,ZeZ];exact j (o+i) Z0;refine .agg _ _ (by simp only[ZeW,Zek,Zhq,p]) (λy J=>r y (Zfd (ZeD J))) λi y n=> ?_;have f:i<c.P.cellsOf T:=by have:=(ZdH.1 n).1;omega
  rw[Zej,if_pos f,Ze9]at n;have:((List.range (c.P.cellsOf T)).map λi=>vs (o+i)).toArray.getD i undef=vs (o+i):=by
   simp[ZdK,f]
  rw[this];exact t (o+i) y n
def Rd.flatAll{G' G'' x v}(hx:Rd w G' x v)(t:∀y∈x.cells,y.flatc=xy)(L:∀l,x≠.tup l):Rd w G'' x v:=by
 cases hx with
 |agg q vs d j p=>exact .agg q vs d j λi y u=>(p i y u).flat (t y (ZdO u))
 |tup l vs d j=>simp_all
 |int k n=>exact .int _ _
 |bool b=>exact .bool _
 |str b=>exact .str _
 |nil a cap F=>exact .nil _ _ F
 |sl l b o cap k vs d j p r A D=>simp_all[absurd,V.cells,V.flatc]
 |ptr q b o vs d j p r=>simp_all[absurd,V.cells,V.flatc]
 |fn f=>exact .fn f
 |clo f q vs d j=>simp_all[absurd,V.cells,V.flatc]
 |nul0=>exact .nul0
 |nul1=>exact .nul1
 |nomp=>exact .nomp
 |mp id H I b z J K d j p r A D=>exact absurd (t (.mp id H I) (by simp[V.cells])) (by simp[V.flatc])
def QV(q:RelG c B G s a w h g)(l:holds s (ZE c C)){x k}(hx:Yk g C x=k)(d:k.isNo=xh):
  ((∃e,k=.val e [])\/k=.nil)\/∃t,x=.tmp t/\(∃v,a.tmps[t]?=xk v/\a.eval x=v/\RelK c.P B s w h (λp=>a.tmps[p]?) t v k)/\(g.at t).2=k/\Rg (g.at t).1 C=xy:=by
 obtain⟨v,rfl⟩|⟨t,rfl,o,v,z,n,j⟩|⟨f,_,y⟩:=Hd q l hx d;rotate_left 2;grind;left;simp only[Yk]at hx;split at hx;exact .inr hx.symm;split at hx;exact .inl ⟨_,hx.symm⟩;subst hx;simp[TK.isNo]at d;simp_all;simp_all;subst hx;simp[TK.isNo]at d;have⟨r,u⟩:=Gq o d;simp_all
def RelK.moved{f t d v k}(l:RelK c.P B s w h f t v k)(j:k.free=xy):RelK c.P B s w h f d v k:=by
 cases k<;>first|exact l|simp[TK.free]at j
def XC(n:RelG c B G s a w h g)(j:holds s (ZE c C)){x k}(hx:Yk g C x=k)(q:k.free=xy)d:
  RelK c.P B s w h (λp=>a.tmps[p]?) d (a.eval x) k:=by
 have r:k.isNo=xh:=by cases k<;>first|rfl|simp[TK.free]at q
 obtain(⟨e,rfl⟩|rfl)|⟨t,rfl,⟨v,z,l,f⟩,_⟩:=QV n j hx r;have⟨y,u,o⟩:=RR n j hx;exact⟨y,u,o⟩;exact QW n j hx;rw[l];exact f.moved q
def Z4V(n:RelG c B G s a w h g)(q:holds s (ZE c C)){x k es}(f:Bk g C x=xk (k,es))d:
  RelK c.P B s w h (λp=>a.tmps[p]?) d (a.eval x) k:=by
 unfold Bk at f;split at f;rename_i A;simp at f;obtain⟨rfl,rfl⟩:=f;exact XC n q rfl A d;split at f;rename_i t F e _ l;simp at f;obtain⟨rfl,rfl⟩:=f;have⟨v,j,_⟩:=n.look q (show look g C t=_ from l) rfl;rw[Act.eval_tmp a t v j];exact j;rename_i t r _ l;simp at f;obtain⟨rfl,rfl⟩:=f;have⟨v,j,⟨b,vs,T,u,y,_⟩,_⟩:=n.look q (show look g C t=_ from l) rfl;rw[Act.eval_tmp a t v j];exact⟨b,u,y⟩;rename_i t r _ l;simp only[ZdI]at f;have⟨⟨e,D⟩,z,f⟩:=f;simp at f;obtain⟨rfl,rfl⟩:=f;have⟨v,j,o,_⟩:=n.look q (show look g C t=_ from l) rfl;rw[Act.eval_tmp a t v j];exact DC n j o z;grind
def Rp{fl b v y}(o:eval s b.1=xk y)(j:Rd w (h.ext b.2) y v)(q:∃z,eval s (XA fl b).1=xk z):
  ∃z,eval s (XA fl b).1=xk z/\Rd w (h.ext (XA fl b).2) z v:=by
 have⟨z,d⟩:=q;unfold XA at d⊢;split;simp_all;split;rename_i n f;simp only[n,f,ZdZ,Zeu,Zer,eval,o,ZdQ]at d;refine⟨z,by simp_all[eval,ZdQ],?_⟩;unfold Wl at d;split at d;grind;rename_i r;split at d;rename_i k;simp at d;subst d;exact j.flatAll (λy t=>ZcK) λl p=>r l p;grind;simp_all
def Z4G(o:RelG c B G s a w h g)(n:holds s (ZE c C)){ty x k es}(j:B7 c g C ty x=xk (k,es))(t:∀e∈es,∃z,eval s e=xk z)d:
  RelK c.P B s w h (λp=>a.tmps[p]?) d (a.eval x) k:=by
 unfold B7 at j;split at j;rename_i e l;simp at j;obtain⟨rfl,rfl⟩:=j;exact XC o n l rfl d;rename_i e p D l;split at j;simp at j;obtain⟨rfl,rfl⟩:=j;have⟨y,u,q⟩:=RR o n l;have:=Rp (s:=s) (w:=w) (h:=h) (fl:=xy) (b:=(e,p::D)) u q (by simp_all[XA]);have⟨z,F,A⟩:=this;exact⟨z,by simp_all[XA],by simp_all[XA]⟩;grind;rename_i l;simp at j;obtain⟨rfl,rfl⟩:=j;exact XC o n l rfl d;rename_i f r l;simp at j;obtain⟨rfl,rfl⟩:=j;exact XC o n l rfl d;grind
def Z4W(H:RelG c B G s a w h g)(A:holds s (ZE c C)){x k es}(f:Bl g C x=xk (k,es))(D:∀e∈es,∃z,eval s e=xk z)o(L:o.op=.nilCheck x)d:
  ∃v,(execOp a.eval o).run c.P w=.ok (.value v) w/\RelK c.P B s w h (λp=>a.tmps[p]?) d v k:=by
 unfold execOp;simp only[L];unfold Bl at f;split at f;rename_i M l;simp at f;obtain⟨rfl,rfl⟩:=f;obtain⟨t,rfl,⟨v,N,F,⟨b,vs,T,j,rfl,_⟩⟩,_⟩:=(QV H A l rfl).resolve_left Z1;rw[F];exact⟨_,rfl,b,j,rfl⟩;rename_i p q l;simp at f;obtain⟨rfl,rfl⟩:=f;have⟨b,j,u⟩:=XC H A l rfl d;rw[u];exact⟨_,rfl,b,j,rfl⟩;rename_i e O l;simp at f;obtain⟨rfl,rfl⟩:=f;have⟨y,I,n⟩:=RR H A l;have⟨z,r⟩:=D _ (List.Mem.head _);generalize a.eval x=v at n;simp only[eval,I,ZdQ]at r;unfold UP at r;split at r;cases n with
 |ptr _ b o vs j u J K=>exact⟨_,rfl,_,I,.ptr _ b o vs j u J K⟩
 cases r;grind
theorem Gj(S:RelG c B G s a w h g){T}(F:X1 c.P T=xy){p o k}(l:zw c g T p o=xk k){b}(q:h.bl p 0=xk b)d:
  Has c B s w h (λp=>a.tmps[p]?) d k (Instr.loadAt T (.pointer (xk ⟨b,o,xw⟩))):=by
 unfold zw at l;simp only[ZdE]at l;have⟨M,O,l⟩:=l;have⟨Y,vs,J,H,_,I,j⟩:=S.memOf O;rw[q]at H;cases H;split at l;rename_i r;split at l;rename_i y;have⟨Q,N,Z⟩:=y;simp at l;have⟨x,L,W,K,z,U⟩:=j.part_rd Q N (G':=h.ext (if Us ((M.drop o).take (c.P.cellsOf T))=xy then [p]else [])) (λb q=>GH.ext_F q) (λR i b q=>by rw[if_pos R];exact .inr ⟨p,Z1,i,q⟩);refine⟨_,yS F r ((vs.toList.drop o).take (c.P.cellsOf T)) ?_ (λi u hi=> ?_),?_⟩;have h2:=j.1;simp_all;grind [cell_of_row];rw[<-l];refine⟨.agg x,?_,z⟩;grind [jc];grind;rename_i r;have n:Y3 c.P T=xh:=by simpa using r
 split at l;rename_i e t;simp at l;have⟨x,L,H,z⟩:=j.2 o _ t;have A:o<vs.size:=Zdf;refine⟨vs.getD o undef,KT F n Zdj,?_⟩;rw[<-l];exact⟨x,L,z.mono λb q=>GH.ext_F q⟩;rename_i X e t;simp at l;have A:o<vs.size:=Zdf;have f:w.cell? ⟨b,o,xw⟩=xk (vs.getD o undef):=Zdj;refine⟨vs.getD o undef,KT F n f,?_⟩;rw[<-l];exact⟨b,q,f⟩;rename_i e t;simp at l;have⟨D,_⟩:=j.2 o _ t;have A:o<vs.size:=Zdf;have f:w.cell? ⟨b,o,xw⟩=xk (vs.getD o undef):=Zdj;refine⟨vs.getD o undef,KT F n f,?_⟩;rw[<-l];exact D;grind
def Lo{x i z n k ag}(f:Y5 x i n k ag=xk z):∃d l j,x=.agg d/\i=.int l (j:Nat)/\j<n/\P d=n*k/\
  (if ag then xk (V.agg ((d.drop (j*k)).take k))else d[j*k]?)=xk z:=by
 unfold Y5 at f;split at f;rename_i d l i;split at f;rename_i q;have⟨o,r,p⟩:=q;obtain⟨j,rfl⟩:=ZdV o;exact⟨d,l,j,rfl,rfl,Z0,p,ZcY⟩;grind;grind
theorem Z2T(hr:RelG c B G s a w h g){T}(hT:X1 c.P T=xy){p o j m f k}(J:A4 c g T p o j m f=xk k)(Z:∀e∈Cz k,∃z,eval s e=xk z)
  {b q} (L:h.bl p 0=xk b) {ki} (hj:eval s j=xk (.int ki (q:Nat))) (hq:q<m) d:
  Has c B s w h (λp=>a.tmps[p]?) d k (Instr.loadAt T (.pointer (xk ⟨b,o+q*f,xw⟩))):=by
 unfold A4 at J;simp only[ZdE]at J;have⟨K,hm,J⟩:=J;have⟨b',vs,ty,Y,_,hh,Q⟩:=hr.memOf hm;rw[L]at Y;cases Y;split at J;rename_i M;have⟨X,hk,h0,a4,hd⟩:=M;simp only[ZdF]at J;have⟨x,hx,W,U,a5,a9⟩:=Q.part_rd X hd (G':=h.F) (λb L=>L) (λho=>by rw[a4]at ho;cases ho);have I:eval s (if UL (c.ix p) o ((K.drop o).take (m*f))=xy then E.mm (c.ix p) o (P ((K.drop o).take (m*f))) else .ag (((K.drop o).take (m*f)).map (·.2)))=xk (.agg x):=by
  split;rename_i hp;exact jc hp (by rw[X];exact h0) hx U;exact hx
 generalize (if UL (c.ix p) o ((K.drop o).take (m*f))=xy then E.mm (c.ix p) o (P ((K.drop o).take (m*f))) else .ag (((K.drop o).take (m*f)).map (·.2)))=ee at I J;subst J;have⟨z,O⟩:=Z _ (List.Mem.head _);simp only[eval,I,hj,ZdQ]at O;have⟨a7,b0,D,R,a1,a3,a6,n⟩:=Lo O;cases R;have a2:D=q:=by
  simp at a1;omega
 subst a2;have a8:D*f+f<=m*f:=by
  rw[<-Zf8];exact Zeo _ a3
 have t:∀i,i<m*f->w.cell? ⟨b,o+i,xw⟩=xk (vs.getD (o+i) undef):=by
  intro i r;have a0:i< P ((K.drop o).take (m*f)):=by rw[X];exact r
  have:=(Q.part X i _ (ZdG a0)).2;rw[ZdT w b (o+i) vs ty (0,0) hh,this]
 have A:∀i y,x[i]?=xk y->y.one=xy/\Rd w h.F y (vs.getD (o+i) undef):=by
  intro i y r;have S:i<m*f:=by rw[<-W];exact(ZdH.1 r).1
  cases a5 with
  |agg _ _ Y h2 h3=>
   have:=h3 i y r;have hg:((vs.toList.drop o).take (m*f)).toArray.getD i undef=vs.getD (o+i) undef:=by
    simp only[ZdK,Zfk,Zej,if_pos S,Ze9,Zf3]
   rw[hg]at this;exact⟨h2 y (ZdO r),this⟩
 cases H:Y3 c.P T with
 |false=>
  rw[H]at n O;simp at n;have l:D*f<m*f:=by rw[<-W];exact(ZdH.1 n).1
  refine⟨_,KT hT H (t _ l),z,by simp only[eval,I,hj,ZdQ];exact O,(A _ z n).2.mono λb L=>GH.ext_F L⟩
 |true=>
  rw[H]at n O;simp at n;subst n;refine⟨.agg ((List.range f).map λi=>vs.getD (o+(D*f+i)) undef).toArray,yS hT H _ (by simp[hk]) (λi u r=> ?_),_,by simp only[eval,I,hj,ZdQ];exact O,?_⟩;have l:i<f:=by simpa using(ZdH.1 r).1
  have:vs.getD (o+(D*f+i)) undef=u:=by simpa[l]using r
  rw[<-this,show o+D*f+i=o+(D*f+i)from by omega];exact t _ Z0;have N:P ((x.drop (D*f)).take f)=f:=ZcL;refine .agg _ _ (by simp only[ZeW,Zek,Zhq,N]) (λy hy=> ?_) λi y r=> ?_;have⟨i,r⟩:=Zeb (Zfd (ZeD hy));exact(A i y r).1;have l:i<f:=by have:=(ZdH.1 r).1;omega
  rw[Zej,if_pos l,Ze9]at r;have:((List.range f).map λi=>vs.getD (o+(D*f+i)) undef).toArray.getD i undef=vs.getD (o+(D*f+i)) undef:=by
   simp[ZdK,l]
  rw[this];exact(A _ y r).2.mono λb L=>GH.ext_F L
 simp at J
def OwnV.elem{o ty x v}(S:OwnV c.P B w h o ty x v){U q y W}(f:X3 x (.int U (q:Nat)) W=xk y):
  ∃l n cap d,∃J:Nat->Value,x=.sl l/\l[q]?=xk y/\o=xk n/\v=.slice (xk ⟨n,0,xw⟩) (P l) cap/\w.heap[n]?=xk (.cells d ty (0,0))/\y.fits (c.P.cellsOf ty)/\q*c.P.cellsOf ty+c.P.cellsOf ty<=d.size/\
   (∀i,i<c.P.cellsOf ty->w.cell? ⟨n,q*c.P.cellsOf ty+i,xw⟩=xk (J i))/\∀i z,y.cells[i]?=xk z->Rd w h.F z (J i):=by
 obtain⟨l,J,rfl,Y,j,k,O,A⟩|⟨_,_,_,_,_,_,rfl,_⟩:=S;case inr=>simp[X3]at f
 simp only[X3]at f;split at f;rw[ZdW,ZdE]at f;have⟨X,f,p⟩:=f;split at p<;>first|(simp at p;subst X)|simp_all
 have t:=(ZdH.1 f).1;obtain⟨rfl,Z⟩|⟨n,cap,d,rfl,_,K,r,_,D,H⟩:=k.2;omega;have L:q*c.P.cellsOf ty+c.P.cellsOf ty<=P l*c.P.cellsOf ty:=by
  rw[<-Zf8];exact Zeo _ t
 have M:P l*c.P.cellsOf ty<=d.size:=by rw[D];exact Zeo _ r
 refine⟨l,n,cap,d,λi=>d.getD (q*c.P.cellsOf ty+i) undef,rfl,f,by rw[<-O];rfl,rfl,K,j y (ZdO f),Z0,λi Q=> ?_,λi z T=> ?_⟩;rw[ZdT w n _ d ty (0,0) K];have:q*c.P.cellsOf ty+i<d.size:=Z0;simp_all;have Q:i<c.P.cellsOf ty:=by
  have:=(ZdH.1 T).1;rw[(j y (ZdO f)).1]at this;exact this
 have⟨u,N,R⟩:=A (q*c.P.cellsOf ty+i) z (by simp_all[Vp]);have:d.getD (q*c.P.cellsOf ty+i) undef=u:=by
  rw[<-H,Zej,if_pos Z0]at N;have I:d[q*c.P.cellsOf ty+i]?=xk u:=by simpa using N
  simp[ZdK,I]
 simp_all;omega
def EK{x:V}{k}(h:x.fits k):x.pc=x.cells:=by
 rfl
theorem Z2U(Y:RelG c B G s a w h g){T}(R:X1 c.P T=xy){p i j o D k}(u:A5 c g T p i j o D=xk k)(K:∀e∈Cz k,∃z,eval s e=xk z)
  {n q} (J:h.bl p (SM i)=xk n) {O} (S:eval s j=xk (.int O (q:Nat))) d:
  Has c B s w h (λp=>a.tmps[p]?) d k (Instr.loadAt T (.pointer (xk ⟨n,q*D+o,xw⟩))):=by
 unfold A5 at u;simp only[ZdE]at u;have⟨⟨ty,e⟩,X,u⟩:=u;split at u;rename_i U;simp at u;subst u;have⟨v,x,_,Z,H⟩:=Y.place X;have⟨z,t⟩:=K _ (List.Mem.head _);have F:∃y,eval s (.idx e j D)=xk y:=by
  unfold JC at t;split at t;simp only[eval]at t⊢;cases I:((eval s e).bind λx=>(eval s j).bind λy=>X3 x y D)with
  |none=>simp_all
  |some y=>simp
  simp only[eval]at t⊢;cases I:((eval s e).bind λx=>(eval s j).bind λy=>X3 x y D)with
  |none=>simp_all
  |some y=>simp
 have⟨y,I⟩:=F;have N:X3 x (.int O q) D=xk y:=by
  simp only[eval,Z,S,ZdQ]at I;exact I
 obtain⟨l,n',cap,Q,xs,rfl,W,L,rfl,hh,f,_,r,M⟩:=H.elem N;rw[J]at L;simp at L;subst L;rw[U]at r f;have A:=EK f;exact A6 (c:=c) (B:=B) (sh:=[p]) R (b:=n) (q:=q*D) (o:=o) (vs:=xs) (by rw[A];exact f.2) (by rw[A,f.1];exact r) (λi z t=>by rw[A]at t;exact(M i z t).mono λb J=>GH.ext_F J) I ⟨z,t⟩ _ d;grind
def Z4O(A:RelG c B G s a w h g)(D:holds s (ZE c C)){T x k es}(L:Bf c g C T x=xk (k,es))(I:∀e∈es,∃z,eval s e=xk z)d:
  Has c B s w h (λp=>a.tmps[p]?) d k (Instr.loadAt T (a.eval x)):=by
 unfold Bf at L;split at L;rename_i N;simp at L;obtain⟨k',r,rfl,rfl⟩:=L;unfold Gi at r;split at r;rename_i R f;obtain⟨t,rfl,⟨v,hv,O,⟨b,vs,ty,l,rfl,_⟩⟩,_⟩:=(QV A D f rfl).resolve_left Z1;rw[O];exact Gj A N r l d;rename_i p o f;have⟨b,l,F⟩:=XC A D f rfl d;grind [Gj];rename_i e o sh f;simp at r;subst r;have⟨y,b,q,vs,U,l,F,H,K,W⟩:=XC A D f rfl d;rw[l];exact A6 N H K W U (I _ (List.Mem.head _)) _ d;rename_i e sh f;simp at r;subst r;have⟨y,X,J⟩:=RR A D f;have⟨z,S⟩:=I _ (List.Mem.head _);have Q:∃u,UP y=xk u:=by
  unfold JC at S;cases M:UP y with
  |none=>grind [eval]
  |some u=>simp
 have⟨u,M⟩:=Q;generalize a.eval x=v at J;cases J with
 |ptr R b o vs l F H K=>
  simp only[UP,ZdF]at M;subst M;exact A6 (c:=c) (B:=B) (sh:=sh) N (x:=.agg R) (b:=b) (q:=o) (o:=0) (vs:=vs) F H K (by simp[eval,X,UP]) ⟨z,S⟩ _ d
 |_=>simp[UP]at M
 rename_i p i j o Z f;have⟨n,q,l,⟨Y,F⟩,H⟩:=XC A D f rfl d;grind [Z2U];rename_i p o j m Z f;have⟨b,q,l,⟨Y,F⟩,H,K⟩:=XC A D f rfl d;grind [Z2T];grind;grind
end
end Vm
namespace Vm
open Go
open Go.RowKit (Below)
section
variable {c:Ctx}{B:Nat}{G:Nat->Prop}{s:St}{a:Act}{w:World}{h:GH}{g:Gam}{C:ZB}
def jO{P:Program}{T}(h:P.cellsOf T≠0):∃i,P.info? T=xk i/\P.cellsOf T=i.size:=by
 unfold Program.cellsOf at h⊢;cases d:P.info? T with
 |none=>grind
 |some i=>simp
def N8{P T fs}(h:Vj P T=.st fs):∃d,P.underlying T=xk (.struct d)/\(∀j∈d,X1 P j.type=xy)/\fs=d.toList.map λf=>(f.offset,P.cellsOf f.type,Y3 P f.type,XB P f.type):=by
 unfold Vj at h;grind
def Ew{P T f x}(k:JJ P T f=xk x):
  ∃j d,P.underlying T=xk (.struct j)/\j[f]?=xk d/\X1 P d.type=xy/\x=(d.offset,P.cellsOf d.type,Y3 P d.type,XB P d.type):=by
 unfold JJ at k;split at k;rename_i j l;obtain⟨o,p,n,rfl⟩:=N8 l;grind;cases k
def KS{T f b o x}(d:JJ c.P T f=xk x)(k:x.2.1≠0):
  (Instr.fieldAt T (.pointer (xk ⟨b,o,xw⟩)) f).run c.P w=.ok (.pointer (xk ⟨b,o+x.1,xw⟩)) w:=by
 obtain⟨n,l,r,j,_,rfl⟩:=Ew d;have⟨i,p,q⟩:=jO k;simp_all[Instr.fieldAt,Zev,Instr.sureAddr,fieldPlace,U1,Zfp]
def Z4K(L:RelG c B G s a w h g)(I:holds s (ZE c C)){T x f k es}(l:Bb c g C T x f=xk (k,es))(O:∀e∈es,∃z,eval s e=xk z)d:
  Has c B s w h (λp=>a.tmps[p]?) d k (Instr.fieldAt T (a.eval x) f):=by
 unfold Bb at l;simp only[ZdE]at l;have⟨y,J,l⟩:=l;split at l;grind;rename_i K;split at l;rename_i R D;simp at l;obtain⟨rfl,rfl⟩:=l;obtain⟨t,rfl,⟨v,Z,Q,⟨b,vs,ty,A,rfl,_⟩⟩,_⟩:=(QV L I D rfl).resolve_left Z1;rw[Q];exact⟨_,KS J K,b,A,Z1⟩;rename_i p q D;simp at l;obtain⟨rfl,rfl⟩:=l;have⟨b,A,F⟩:=XC L I D rfl d;rw[F];exact⟨_,KS J K,b,A,rfl⟩;rename_i e q Y D;simp at l;obtain⟨rfl,rfl⟩:=l;have⟨z,b,r,vs,W,A,F,H,N,X⟩:=XC L I D rfl d;rw[A];exact⟨_,KS J K,z,b,r,vs,W,Z1,F,H,N,X⟩;rename_i e Y D;simp at l;obtain⟨rfl,rfl⟩:=l;have⟨u,S,M⟩:=RR L I D;have⟨z,U⟩:=O _ (List.Mem.head _);simp only[eval,S,ZdQ]at U;generalize a.eval x=v at M;cases M with
 |ptr R b o vs A F H N=>
  exact⟨_,KS J K,.agg R,b,o,vs,by simp[eval,S,UP],rfl,A,F,H,N⟩
 |_=>simp[UP]at U
 rename_i p i j q kk D;simp at l;obtain⟨rfl,rfl⟩:=l;have⟨n,r,A,F,H⟩:=XC L I D rfl d;rw[H];exact⟨_,KS J K,n,r,A,F,Z1⟩;grind
def Jd{P T d}(h:Vj P T=.sl d):P.underlying T=xk (.slice d):=by
 grind [Vj]
def Cp{P T d n}(h:Vj P T=.ar n d):P.underlying T=xk (.array n d):=by
 grind [Vj]
def Fh{x j z k}(f:X3 x j k=xk z):∃l n q,x=.sl l/\j=.int n (q:Nat)/\l[q]?=xk z/\P z.cells=k:=by
 unfold X3 at f;split at f;rename_i l n i;split at f;rename_i o;obtain⟨q,rfl⟩:=ZdV o;rw[ZdW,ZdE]at f;have⟨r,p,d⟩:=f;split at d<;>first|(simp at d;subst r)|simp_all
 exact⟨l,n,q,rfl,rfl,p,by assumption⟩;grind;grind
def Rd.int_eq{G' d n v}(h:Rd w G' (.int d n) v):v=.int d n:=by cases h;rfl
def Mt{T d}(j:c.P.underlying T=xk (.slice d))(f:X1 c.P d=xy){b o len cap p q}(l:q<len):
  (Instr.indexAt T (.slice (xk ⟨b,o,xw⟩) len cap) (.int p q)).run c.P w=.ok (.pointer (xk ⟨b,o+q*c.P.cellsOf d,xw⟩)) w:=by
 have⟨r,i,u,k,n,_⟩:=VW f;have t:(0:Int)<=q/\(q:Int)<len:=Z0;simp[Instr.indexAt,asIntOf,Zev j,l,U1 k,n,Zfp]
def Z4M(S:RelG c B G s a w h g)(U:holds s (ZE c C)){T x i k es}(r:Be c g C T x i=xk (k,es))(O:∀e∈es,∃z,eval s e=xk z)d:
  Has c B s w h (λp=>a.tmps[p]?) d k (Instr.indexAt T (a.eval x) (a.eval i)):=by
 unfold Be at r;split at r;rename_i A hT;have L:=Jd hT;simp only[ZdE]at r;have⟨⟨j,sj⟩,hj,r⟩:=r;have⟨y,hy,M⟩:=WD S U hj;have own:∀ {p} {pi:Option Nat},Yk g C x=RT p pi->zl c g p pi A j=xk (k,es)->Has c B s w h (λp=>a.tmps[p]?) d k (Instr.indexAt T (a.eval x) (a.eval i)):=by
  intro p pi J F;unfold zl at F;simp only[ZdE]at F;have⟨⟨ty,e⟩,ho,F⟩:=F;split at F;rename_i R;have⟨R,f⟩:=R;simp at F;obtain⟨rfl,rfl⟩:=F;have a5:=XC S U J (by cases pi<;>rfl) 0;have⟨xv,b5,a4⟩:=S.ownAt ho a5;have⟨z,H⟩:=O _ (List.Mem.head _);simp only[eval,b5,hy,ZdQ]at H;have b6:=H;obtain⟨l,ki,q,rfl,rfl,K,_⟩:=Fh H;have⟨l',n,cap,c1,xs,b3,_,a7,hv,_⟩:=a4.elem b6;cases b3;rw[hv,M.int_eq];refine⟨_,Mt L f (ZdH.1 K).1,n,q,?_,⟨ki,hy⟩,by rw[Zet,Zfr]⟩;cases pi<;>exact a7;simp at F
 split at r;rename_i p J;exact own (pi:=xw) J r;rename_i p q J;exact own (pi:=xk q) J r;rename_i e sh J;split at r;rename_i f;simp at r;obtain⟨rfl,rfl⟩:=r;have⟨u,hu,Q⟩:=RR S U J;have⟨z,H⟩:=O _ (List.Mem.head _);have a0:=H;simp only[eval,hu,hy,ZdQ]at H;obtain⟨l,ki,q,rfl,rfl,K,b7⟩:=Fh H;rw[M.int_eq];generalize a.eval x=v at Q;cases Q with
 |nil a' cap hc=>simp at K
 |sl _ b o cap kk vs h1 h2 h3 h4 h5 h6=>
  have D:=h4 z (ZdO K);have b2:kk=c.P.cellsOf A:=by rw[<-D.1,b7]
  subst b2;have a2:=(ZdH.1 K).1;have b4:q*c.P.cellsOf A+c.P.cellsOf A<=P l*c.P.cellsOf A:=by
   rw[<-Zf8];exact Zeo _ a2
  have Z:=EK D;refine⟨_,Mt L f a2,z,b,o+q*c.P.cellsOf A,λi=>vs (q*c.P.cellsOf A+i),a0,by rw[Zfr],h3,by rw[Z];exact D.2,λi I=> ?_,λi u I=> ?_⟩;rw[Z,D.1]at I;rw[ZeZ];exact h5 _ Z0;rw[Z]at I;have b0:i<c.P.cellsOf A:=by rw[<-D.1];exact(ZdH.1 I).1
  exact h6 _ u (by rw[Vp h4 K i b0];exact I)
 simp at r;simp at r;rename_i n A hT;have L:=Cp hT;split at r;simp at r;rename_i f;simp at f;simp only[ZdE]at r;have⟨⟨j,sj⟩,hj,r⟩:=r;have⟨y,hy,M⟩:=WD S U hj;have fin:∀ {p o b},a.eval x=.pointer (xk ⟨b,o,xw⟩)->h.bl p 0=xk b->xk (TK.pa p o j n (c.P.cellsOf A),[E.ai (.c (.agg (List.replicate n (.bool xy)))) j n 1 xh])=xk (k,es)->Has c B s w h (λp=>a.tmps[p]?) d k (Instr.indexAt T (a.eval x) (a.eval i)):=by
  intro p o b Y hb heq;simp at heq;obtain⟨rfl,rfl⟩:=heq;have⟨z,H⟩:=O _ (List.Mem.head _);simp only[eval,hy,ZdQ]at H;obtain⟨cs,ki,q,_,rfl,hq,_⟩:=Lo H;rw[Y,M.int_eq];have⟨dd,info,hd,I,hs,_⟩:=VW f;refine⟨_,?_,b,q,hb,⟨ki,hy⟩,hq,rfl⟩;simp[Instr.indexAt,asIntOf,Zev L,hq,U1 I,hs,Zfp,Instr.sureAddr]
 split at r;rename_i cs J;obtain⟨t,rfl,⟨v,hv,Y,⟨b,vs,ty,h1,rfl,_⟩⟩,_⟩:=(QV S U J rfl).resolve_left (by rintro(⟨e,h⟩|h)<;>cases h);exact fin Y h1 r;rename_i p o J;have⟨b,h1,h2⟩:=XC S U J rfl d;exact fin h2 h1 r;rename_i e o sh J;simp at r;obtain⟨rfl,rfl⟩:=r;have⟨u,b,q0,vs,he,hv,a1,a3,X,Q⟩:=XC S U J rfl d;have⟨z,H⟩:=O _ (List.Mem.head _);have a0:=H;simp only[eval,he,hy,ZdQ,ZdE]at H;have⟨cs,a9,H⟩:=H;obtain⟨b4,rfl⟩:=LU a9;obtain⟨c0,ki,q,a8,rfl,hq,b9,a6⟩:=Lo H;cases a8;simp at a6;rw[hv,M.int_eq];have⟨dd,info,hd,I,hs,_⟩:=VW f;have b8:q*c.P.cellsOf A+c.P.cellsOf A<=n*c.P.cellsOf A:=by
  rw[<-Zf8];exact Zeo _ hq
 have W:∀i x,z.pc[i]?=xk x->i<c.P.cellsOf A/\u.pc[o+q*c.P.cellsOf A+i]?=xk x:=by
  intro i x N;rw[<-a6]at N;simp only[V.pc,Zej]at N;split at N;rename_i b1;rw[Ze9,Zej,if_pos Z0,Ze9]at N;exact⟨b1,by rw[<-N];congr 1;omega⟩;cases N
 refine⟨_,?_,z,b,q0+(o+q*c.P.cellsOf A),λi=>vs (o+q*c.P.cellsOf A+i),a0,rfl,a1,?_,?_,?_⟩;simp[Instr.indexAt,asIntOf,Zev L,hq,U1 I,hs,Zfp,Instr.sureAddr,ZeZ];intro x N;have⟨i,I⟩:=Zeb N;exact a3 x (ZdO (W i x I).2);intro i I;have:=W i _ (ZdG I);rw[ZeZ];exact X _ (ZdH.1 this.2).1;intro i x N;exact Q _ x (W i x N).2;simp at r;simp at r
theorem jT{x z}(h:YP x=xk z):z.one=xy:=(TS h).2
def GM{j x k v z}(h:UG j x k v=xk z):∃id l vs d f,x=.mp id l vs/\z=.mp id d f:=by
 unfold UG at h;grind
theorem LK:∀e x,e.sure=xy->eval s e=xk x->x.one=xy
 |.c v,x,h,j=>by simp only[eval,ZdF]at j;subst j;exact h
 | .m t i,x,_,j=>by
   simp only[eval]at j;split at j;rw[ZdE]at j;have⟨y,_,f⟩:=j;exact jT f;grind
 | .bin op a b,x,_,j=>by
   simp only[eval,ZdE]at j;have⟨y,_,z,_,f⟩:=j;cases y<;>cases z<;>cases op<;>simp only[Xc]at f<;>(try split at f)<;>(try simp only[ZdF]at f)<;>(try subst f)<;>first|rfl|simp at f
 | .eqv n a b,x,_,j=>by
   simp only[eval,ZdE]at j;have⟨y,_,z,_,f⟩:=j;cases y<;>cases z<;>simp only[Ss]at f<;>(try simp only[ZdF]at f)<;>(try subst f)<;>first|rfl|simp at f
 | .un op a,x,_,j=>by
   simp only[eval,ZdE]at j;have⟨y,_,f⟩:=j;cases y<;>cases op<;>simp only[Sc]at f<;>(try simp only[ZdF]at f)<;>(try subst f)<;>first|rfl|simp at f
 | .conv k a,x,_,j=>by
   simp only[eval,ZdE]at j;have⟨y,_,f⟩:=j;cases y<;>simp only[Qq]at f<;>(try simp only[ZdF]at f)<;>(try subst f)<;>first|rfl|simp at f
 | .len a,x,_,j=>by
   simp only[eval,ZdE]at j;have⟨y,_,f⟩:=j;cases y<;>simp only[RG]at f<;>(try simp only[ZdF]at f)<;>(try subst f)<;>first|rfl|simp at f
 | .mn a b,x,_,j=>by
   simp only[eval,ZdE]at j;have⟨y,_,z,_,f⟩:=j;cases y<;>cases z<;>simp only[RL]at f<;>(try simp only[ZdF]at f)<;>(try subst f)<;>first|rfl|simp at f
 | .mx a b,x,_,j=>by
   simp only[eval,ZdE]at j;have⟨y,_,z,_,f⟩:=j;cases y<;>cases z<;>simp only[RJ]at f<;>(try simp only[ZdF]at f)<;>(try subst f)<;>first|rfl|simp at f
 | .mput A a k v,x,_,j=>by
   simp only[eval,ZdE]at j;have⟨y,_,z,_,u,_,f⟩:=j;obtain⟨_,_,_,_,_,_,rfl⟩:=GM f;rfl
 | .mlen a,x,_,j=>by
   simp only[eval,ZdE]at j;have⟨y,_,f⟩:=j;cases y<;>simp only[SD]at f<;>(try simp only[ZdF]at f)<;>(try subst f)<;>first|rfl|simp at f
 | .mclr a,x,_,j=>by
   simp only[eval,ZdE]at j;have⟨y,_,f⟩:=j;cases y<;>simp only[K5]at f<;>(try simp only[ZdF]at f)<;>(try subst f)<;>first|rfl|simp at f
 | .fld a o,x,_,j=>by
   simp only[eval,ZdE,ZX]at j;grind [jT]
 | .slc a p r k,x,_,j=>by
   simp only[eval,ZdE]at j;have⟨y,_,z,_,u,_,f⟩:=j;unfold SW at f;split at f;split at f;simp only[ZdF]at f;subst f;rfl;grind;grind
 | .slcl a p k,x,_,j=>by
   simp only[eval,ZdE]at j;have⟨y,_,z,_,f⟩:=j;unfold Q3 at f;split at f;split at f;simp only[ZdF]at f;subst f;rfl;grind;grind
 | .app a b k,x,_,j=>by
   simp only[eval,ZdE]at j;have⟨y,_,z,_,f⟩:=j;unfold R9 at f;split at f;split at f;simp only[ZdF]at f;subst f;rfl;grind;grind
 | .upd a i o b,x,_,j=>by
   simp only[eval,ZdE]at j;have⟨y,_,z,_,u,_,f⟩:=j;unfold R1 at f;split at f;split at f;rw[ZdE]at f;have⟨q,_,f⟩:=f;split at f;simp only[ZdF]at f;subst f;rfl;grind;grind;grind
 | .mk z n,x,_,j=>by
   simp only[eval,ZdE]at j;have⟨y,_,f⟩:=j;unfold K7 at f;split at f;split at f;simp only[ZdF]at f;subst f;rfl;grind;grind
 | .lit l,x,_,j=>by
   simp only[eval,ZdI]at j;have⟨y,_,f⟩:=j;subst f;rfl
 | .one a,x,_,j=>by
   grind [eval,Option.bind_eq_some_iff,jT]
 | .ite d a b,x,h,j=>by
   simp only[E.sure,ZdJ]at h;simp only[eval,ZdE]at j;have⟨y,_,f⟩:=j;unfold QH at f;split at f;exact LK a x h.1 f;exact LK b x h.2 f;grind
 |.s t,x,h,j=>Zd0
 |.mm t i n,x,h,j=>Zd0
 |.ext a i,x,h,j=>Zd0
 |.idx a i k,x,h,j=>Zd0
 |.flds a o n,x,h,j=>Zd0
 |.ai a i n k ag,x,h,j=>Zd0
 |.aput a i n k b,x,h,j=>Zd0
 |.ag l,x,h,j=>Zd0
 |.star a,x,h,j=>Zd0
 |.isag a,x,h,j=>Zd0
 |.sz a n,x,h,j=>Zd0
 |.fl a,x,h,j=>Zd0
 |.fls a,x,h,j=>Zd0
end
end Vm
namespace Vm
open Go
open Go.RowKit (Below)
section
variable {c:Ctx}{B:Nat}{G:Nat->Prop}{s:St}{a:Act}{w:World}{h:GH}{g:Gam}{C:ZB}
theorem Ha{e x}(hx:eval s (y5 e)=xk x):eval s e=xk x/\x.one=xy:=by
 unfold y5 at hx;split at hx;grind [LK];simp only[eval,ZdE]at hx;have⟨y,j,d⟩:=hx;obtain⟨rfl,f⟩:=TS d;simp_all
theorem N7{x z n}(d:Vi x n=xk z):x=z/\P z.cells=n/\∀l,z≠.tup l:=by
 unfold Vi at d;split at d
 .rename_i f;cases x<;>simp at d<;>first|(subst d;exact⟨rfl,f,Z1⟩)|(simp at d;done)
 grind
theorem Hb{x:V}(h:x.one=xy):∀l,x≠.tup l:=by
 grind [V.one]
theorem Ti{x:V}(h:x.one=xy):x.cells=[x]:=by
 cases x<;>first|rfl|simp[V.one]at h
theorem Z7x{e n x}(hx:eval s (Cn e n)=xk x):eval s e=xk x/\P x.cells=n/\∀l,x≠.tup l:=by
 unfold Cn at hx;split at hx
 .rename_i j;refine⟨hx,?_⟩;cases e<;>simp only[E.sized,Zeq,ZdJ]at j<;>first|(cases j;done)|skip
  grind [eval,Option.some.injEq,V.cells];subst j;simp only[eval,ZdE]at hx;have⟨y,_,k⟩:=hx;obtain⟨o,rfl⟩:=LU k;grind [V.cells];rename_i l;have⟨F,d⟩:=j;simp only[eval,ZdI]at hx;obtain⟨D,p,rfl⟩:=hx;have⟨o,r⟩:=Uv p;have u:∀y∈D,y.one=xy:=by
   intro y k;have⟨i,t⟩:=Zeb k;have f:i<P l:=by have:=(ZdH.1 t).1;omega
   have⟨z,A,q⟩:=r i l[i] (ZdG f);rw[t]at A;cases A;exact LK _ _ (ZdR.1 d _ (Ze0 f)) q
  simp_all[Ts,V.cells,VS];grind [eval,Option.bind_eq_some_iff,N7]
 simp only[eval,ZdE]at hx;have⟨y,k,o⟩:=hx;obtain⟨rfl,r⟩:=N7 o;simp_all
theorem qo{ag n e x}(hx:eval s (WK ag n e)=xk x):eval s e=xk x/\(∀l,x≠.tup l)/\(ag=xy->P x.cells=n)/\(ag=xh->x.one=xy):=by
 grind [WK,Z7x,Ha,Hb]
def BN{P T}(n:(P.underlying T).isSome=xy)(j:P.cellsOf T≠0){vs o}(t:o+P.cellsOf T<=vs.size):
  (part T vs o).run P w=.ok (if Y3 P T then .agg (vs.extract o (o+P.cellsOf T))else vs.getD o undef) w:=by
 have⟨i,q,y⟩:=jO j;have f:X1 P T=xy:=by simp[X1,n,q]
 have⟨d,z,x,r,u,k⟩:=VW f;have l:o<vs.size:=Z0;cases p:Y3 P T with
 |true=>simp_all[part,U1]
 |false=>simp_all[part,ZdK]
def Rd.part{G'}{cs:List V}{vs:Array Value}(l:vs.size=P cs)(h2:∀c∈cs,c.one=xy)(p:∀i c,cs[i]?=xk c->Rd w G' c (vs.getD i undef)){o n}(j:o+n<=P cs):
  Rd w G' (.agg ((cs.drop o).take n)) (.agg (vs.extract o (o+n))):=by
 refine .agg _ _ ZcL (λy k=>h2 y (Zfd (ZeD k))) λi y d=> ?_;rw[Zej]at d;split at d;rename_i f;rw[Ze9]at d;have q:(vs.extract o (o+n)).getD i undef=vs.getD (o+i) undef:=by
  simp only[ZdK,ZhC];rw[if_pos Z0]
 simp_all;grind
def FU{x z}(d:RB x=xk z):∃f,x=.agg f/\z=.agg f:=by
 unfold RB at d;split at d;simp at d;exact⟨_,rfl,d.symm⟩;grind
def Z4L(hr:RelG c B G s a w h g)(S:holds s (ZE c C)){T x f k es}(t:Bc c g C T x f=xk (k,es))(L:∀e∈es,∃z,eval s e=xk z)d:
  Has c B s w h (λp=>a.tmps[p]?) d k (Instr.field T (a.eval x) f):=by
 unfold Bc at t;simp only[ZdE]at t;have⟨y,X,t⟩:=t;split at t;grind;rename_i M;simp only[ZdI,ZdU]at t;obtain⟨⟨e,sh⟩,W,rfl,rfl⟩:=t;obtain⟨fs,j,hu,Y,H,rfl⟩:=Ew X;simp only at M;have⟨u,F,A⟩:=WD hr S W;have⟨z,l⟩:=L _ (List.Mem.head _);simp only at l;generalize a.eval x=v at A;have⟨i,hi,hs⟩:=jO M;have D:(c.P.underlying j.type).isSome=xy:=by simp only[X1,ZdJ]at H;exact H.1
 cases n:Y3 c.P j.type with
 |true=>
  rw[n]at l;simp only[Zer,eval,F,ZdQ,ZdE]at l;have⟨q,N,l⟩:=l;obtain⟨O,rfl,rfl⟩:=FU N;obtain⟨r,rfl⟩:=LU l;cases A with
  |agg _ vs J Q K=>
   refine⟨.agg (vs.extract j.offset (j.offset+c.P.cellsOf j.type)),?_,.agg ((O.drop j.offset).take (c.P.cellsOf j.type)),?_,Rd.part J Q K r⟩;have:=BN (w:=w) (P:=c.P) D M (vs:=vs) (o:=j.offset) (by rw[J];exact r);simp_all[Instr.field,Zev,asAgg];simp only[n,Zer,eval,F,ZdQ,RB,U9];rw[if_pos r];rfl
 |false=>
  rw[n]at l;simp only[ZdZ,Zeu,eval,F,ZdQ,ZdE]at l;have⟨q,N,l⟩:=l;obtain⟨O,rfl,rfl⟩:=FU N;have I:=jn l;cases A with
  |agg _ vs J Q K=>
   have a0:j.offset<vs.size:=by rw[J];exact(ZdH.1 I).1
   refine⟨vs.getD j.offset undef,?_,z,?_,K _ _ I⟩;have⟨d',i',U,Z,a1,R⟩:=VW (P:=c.P) (T:=j.type) Z0;simp_all[Instr.field,Zev,asAgg,part,ZdK];simp_all[ZdZ,Zeu,eval,ZdQ,RB]
def Z4N(U:RelG c B G s a w h g)(Q:holds s (ZE c C)){T x i k es}(F:Bd c g C T x i=xk (k,es))(J:∀e∈es,∃z,eval s e=xk z)d:
  Has c B s w h (λp=>a.tmps[p]?) d k (Instr.index T (a.eval x) (a.eval i)):=by
 unfold Bd at F;split at F;rename_i n r Y;have A:=Cp Y;split at F;grind;rename_i l;simp at l;simp only[ZdE,ZdI,ZdU]at F;obtain⟨⟨e,sh⟩,Z,⟨j,sj⟩,hj,rfl,rfl⟩:=F;have⟨u,hu,H⟩:=WD U Q Z;have⟨y,hy,L⟩:=WD U Q hj;have⟨z,M⟩:=J _ (List.Mem.head _);have I:=M;simp only[eval,hu,hy,ZdQ]at M;obtain⟨cs,ki,q,rfl,rfl,K,S,f⟩:=Lo M;rw[L.int_eq];generalize a.eval x=v at H;have⟨dd,info,hd,R,W,t⟩:=VW l;have a0:q*c.P.cellsOf r+c.P.cellsOf r<=n*c.P.cellsOf r:=by
  rw[<-Zf8];exact Zeo _ K
 cases H with
 |agg _ vs N X O=>
  cases o:Y3 c.P r with
  |false=>
   rw[o]at f I;simp at f;have D:q*c.P.cellsOf r<vs.size:=by rw[N];exact(ZdH.1 f).1
   rw[W]at D f;refine⟨vs.getD (q*info.size) undef,?_,z,Z0,O _ _ f⟩;simp[Instr.index,asIntOf,Zev A,K,U1 R,part,t,o,D,ZdK]
  |true=>
   rw[o]at f I;simp at f;subst f;refine⟨.agg (vs.extract (q*c.P.cellsOf r) (q*c.P.cellsOf r+c.P.cellsOf r)),?_,_,Z0,Rd.part N X O Z0⟩;rw[W];simp[Instr.index,asIntOf,Zev A,K,U1 R,part,t,o]
 grind
def MO{k l}(d:Xp k l=xy):∀x∈l,P x.cells=k:=λx f=>by
 have:=ZdR.1 d x f;simp_all
def Z0A{P:Program}{T d}(h:P.underlying T=xk (.slice d)):P.elem T=d:=by
 simp[Program.elem,h]
def Rd.sliced{G' l o len cap}(hx:Rd w G' (.sl l) (.slice o len cap)){k p q}(K:Xp k l=xy)(L:p<=q)(D:q<=P l):
  q<=cap/\len=P l/\Rd w G' (.sl ((l.take q).drop p)) (sliced o p q cap k):=by
 cases hx with
 |nil _ _ J=>
  simp at D;subst D;have A:p=0:=Z0;subst A;exact⟨ZeQ _,rfl,by simp;exact .nil _ _ J⟩
 |sl _ b o _ d vs M N F t H I=>
  refine⟨Z0,rfl,?_⟩;unfold Go.sliced;by_cases r:p=q;subst r;have:(l.take p).drop p=[]:=by
   rw[ZgG];simp;omega
  rw[this,ZfE];exact .nil _ _ Z0;have z:cap≠p:=Z0;have y:∃x,l[p]?=xk x:=⟨_,ZdG Z0⟩;have⟨x,hx⟩:=y;have u:d=k:=by rw[<-(t x (ZdO hx)).1,MO K x (ZdO hx)]
  subst u;have f:P ((l.take q).drop p)=q-p:=ZcL;simp only[if_neg z,Ze4,Zfp];rw[<-f];have j:Vm.flat ((l.take q).drop p)=((Vm.flat l).take (q*d)).drop (p*d):=by
   rw[Z0T (k:=d) (λx hx=>t x (ZeD hx)),Z0W t]
  refine .sl _ b (o+p*d) (cap-p) d (λi=>vs (p*d+i)) Z0 Z0 F (λx hx=>t x (ZeD (Zfd hx))) (λi n=> ?_) λi c n=> ?_;rw[ZeZ];refine H _ ?_;have:(q-p)*d+p*d<=P l*d:=by rw[<-Nat.add_mul];exact Zeo _ Z0
  rw[f]at n;omega;rw[j,Ze9,Zej]at n;split at n;exact I _ _ n;simp at n
def Z6t{T}(n:c.P.underlying T=xk (.slice (c.P.elem T))){v j f l d k}:
  Has c B s w h l d k (Instr.sliceAt T v j f xw)=Has c B s w h l d k (Instr.slice T v j f xw):=by
 simp_all[Has,run_sliceAt_slice]
theorem yT{P T}(d:X1 P T=xy)w:(Go.sizeOf T).run P w=.ok (P.cellsOf T) w:=by
 grind [VW,U1]
def Z75{k x y z u}(d:SW k x y z=xk u):∃l j n p q,x=.sl l/\y=.int j (p:Nat)/\z=.int n (q:Nat)/\p<=q/\q<=P l/\Xp k l=xy/\u=.sl ((l.take q).drop p):=by
 unfold SW at d;split at d;rename_i l j p n q;split at d;rename_i r;have⟨f,o,t,A⟩:=r;obtain⟨p,rfl⟩:=ZdV f;obtain⟨q,rfl⟩:=ZdV (Int.le_trans f o);grind;grind;grind
def Z76{k x y u}(d:Q3 k x y=xk u):∃l f p,x=.sl l/\y=.int f (p:Nat)/\p<=P l/\Xp k l=xy/\u=.sl (l.drop p):=by
 unfold Q3 at d;split at d;rename_i l f p;split at d;rename_i o;have⟨j,q,n⟩:=o;obtain⟨p,rfl⟩:=ZdV j;simp at d;exact⟨l,f,p,rfl,rfl,Z0,n,d.symm⟩;grind;grind
def Rd.sl_eq{G' l v}(hx:Rd w G' (.sl l) v):∃o len cap,v=.slice o len cap:=by
 cases hx<;>exact⟨_,_,_,rfl⟩
def Z4Z(Q:RelG c B G s a w h g)(O:holds s (ZE c C)){T x R X k es}(M:Bo c g C T x R X=xk (k,es))(W:∀e∈es,∃z,eval s e=xk z)d:
  Has c B s w h (λp=>a.tmps[p]?) d k (Instr.sliceAt T (a.eval x) (R.map a.eval) (X.map a.eval) xw):=by
 unfold Bo at M;split at M;rename_i el hT;have K:=Jd hT;have U:=Z0A K;have S:c.P.underlying T=xk (.slice (c.P.elem T)):=by rw[U];exact K
 split at M;rename_i a4;simp only[ZdE,ZdI,ZdU]at M;obtain⟨⟨e,sh⟩,he,l,D,e',A,rfl,rfl⟩:=M;have⟨u,hu,n⟩:=WD Q O he;have⟨z,y⟩:=W _ (List.Mem.head _);rw[Z6t S];generalize a.eval x=v at n;cases X with
 |some hh=>
  simp only[AG,ZdI]at A;obtain⟨⟨f,sf⟩,hf,rfl⟩:=A;have⟨y2,a1,N⟩:=WD Q O hf;have J:=y;simp only[eval,hu,a1,ZdQ,ZdE]at y;have⟨y1,r,y⟩:=y;obtain⟨ll,ka,kb,p,q,rfl,rfl,rfl,Z,hq,I,rfl⟩:=Z75 y;obtain⟨o,len,cap,rfl⟩:=n.sl_eq;have⟨a0,L,j⟩:=n.sliced I Z hq;refine⟨_,?_,_,J,j⟩;cases R with
  |some a2=>
   simp only[Kj,ZdI]at D;obtain⟨⟨f1,a3⟩,F,rfl⟩:=D;have⟨y3,t,H⟩:=WD Q O F;rw[r]at t;cases t;simp;rw[N.int_eq,H.int_eq];simp_all[run_slice_lh,yT,Result.andThen]
  |none=>
   simp only[Kj,ZdF]at D;subst D;simp only[eval,ZdF,V.int.injEq]at r;have Y:p=0:=Z0;subst Y;simp;rw[N.int_eq];grind [run_slice_h,yT,Result.andThen]
 |none=>
  simp only[AG,ZdF]at A;subst A;have J:=y;simp only[eval,hu,ZdQ,ZdE]at y;have⟨y1,r,y⟩:=y;obtain⟨ll,ka,p,rfl,rfl,hq,I,rfl⟩:=Z76 y;obtain⟨o,len,cap,rfl⟩:=n.sl_eq;have⟨a0,L,j⟩:=n.sliced I hq (ZdL _);rw[Zfa]at j;refine⟨_,?_,_,J,j⟩;cases R with
  |some a2=>
   simp only[Kj,ZdI]at D;obtain⟨⟨f1,a3⟩,F,rfl⟩:=D;have⟨y3,t,H⟩:=WD Q O F;rw[r]at t;cases t;simp;rw[H.int_eq];simp_all[run_slice_l,yT,Result.andThen]
  |none=>
   simp only[Kj,ZdF]at D;subst D;simp only[eval,ZdF,V.int.injEq]at r;grind [run_slice_all,yT,Result.andThen]
 grind;grind
end
end Vm
namespace Vm
open Go
open Go.RowKit (Below)
def GH.give(h:GH)(d i n:Nat):GH:= {F:=h.F,bl:=λt j=>if t=d then(if j=i then xk n else xw)else h.bl t j,K:=h.K}
def GH.froz(h:GH)(n:Nat):GH:= {F:=λb=>h.F b\/b=n,bl:=h.bl,K:=h.K}
section
variable {c:Ctx}{B:Nat}{G:Nat->Prop}{s:St}{a:Act}{w w':World}{h:GH}{g:Gam}{C:ZB}
def Qk(d:Ok B G w h)(f:w.grownBy w' xw):Below B w w':=(Zef B w).grown f d.base λk j=>by cases j
def qk(k:Ok B G w h)(p:w.grownBy w' xw)d i{n}(H:U (R w)<=n)(r:n<U (R w')):
  Ok B G w' (h.give d i n)/\Step B [d] [d] [] w w' h (h.give d i n):=by
 have o:=p.size
 refine⟨⟨Zeh k.base o,λb f=>ZdS (k.f_lt b f) o,k.f_or,k.g_F,λt j b f=> ?_,λt j u q b f l=> ?_,λb f=>ZdS (k.k_lt b f) o,λt j b f x=> ?_,k.k_F⟩,
  Qk k p,λb f _=>p.block b f Z1,λb f=>f,λt I _=> ?_,λt I=> ?_,λ_ _ _ _ F=>(by simp at F),rfl⟩
 simp only[GH.give]at f;split at f;split at f;simp at f;subst f;exact⟨Zeh k.base H,r,λD=>by have:=k.f_lt _ D;omega⟩;cases f;have⟨y,z,A⟩:=k.b_lt t j b f;exact⟨y,ZdS z o,A⟩
 .simp only[GH.give]at f l;split at f<;>split at l;simp_all
  .split at f<;>first|(cases f;done)|skip
   simp at f;have:=(k.b_lt u q b l).2.1;omega
  .split at l<;>first|(cases l;done)|skip
   simp at l;have:=(k.b_lt t j b f).2.1;omega
  exact k.inj t j u q b f l
 simp only[GH.give]at f;split at f;split at f;simp at f;subst f;have:=k.k_lt _ x;omega;cases f;exact k.k_bl t j b f x;simp_all[GH.give];simp_all[GH.give]
def Z7w(d:Ok B G w h)(o:w.grownBy w' xw)ps rb{n}(y:U (R w)<=n)(z:n<U (R w')):
  Ok B G w' (h.froz n)/\Step B ps rb [] w w' h (h.froz n):=by
 have k:=o.size
 refine⟨⟨Zeh d.base k,λb f=> ?_,λb f=> ?_,λb f=>.inl (d.g_F b f),λt j b f=> ?_,d.inj,λb f=>ZdS (d.k_lt b f) k,d.k_bl,λb f=> ?_⟩,
  Qk d o,λb f _=>o.block b f Z1,λb f=>.inl f,λt A _=>rfl,λt A=>rfl,λ_ _ _ _ x=>(by simp at x),rfl⟩
 obtain f|rfl:=f;exact ZdS (d.f_lt b f) k;omega;obtain f|rfl:=f;exact d.f_or b f;exact .inr (Zeh d.base y);have⟨p,q,r⟩:=d.b_lt t j b f;refine⟨p,ZdS q k,λl=> ?_⟩;obtain l|rfl:=l;exact r l;omega;obtain f|rfl:=f;exact d.k_F b f;exact .inr λu=>by have:=d.k_lt _ u;omega
def BS(k:Ok B G w h)(j:w.grownBy w' xw){G'}(d:∀b,G' b->b<U (R w)):Same G' w w':=λb f=>j.block b (d b f) Z1
def Z0I(d:Ok B G w h)sh:∀b,h.ext sh b->b<U (R w):=by
 intro b f;obtain f|⟨p,_,i,j⟩:=f;exact d.f_lt b f;exact(d.b_lt p (i+1) b j).2.1
def Aa{α β:Type}{f}:∀ {l:List α} {r:List β},l.mapM f=xk r->P r=P l/\∀(i:Nat) v,l[i]?=xk v->∃x,r[i]?=xk x/\f v=xk x
 | [],r,d=>by
   simp at d;subst d;exact⟨rfl,λi v j=>by simp at j⟩
 |y::l,r,d=>by
  rw[Zg5]at d;simp only[Option.bind_eq_bind,ZdE,Option.pure_def,ZdF]at d;obtain⟨x,p,q,k,rfl⟩:=d;have⟨n,o⟩:=Aa k;refine⟨by simp[n],λi v j=> ?_⟩;cases i with
  |zero=>simp at j;subst j;exact⟨x,Z1,p⟩
  |succ i=>simpa using o i v ZdD
def CJ{P T f}(d:zeroCells P T=xk f):∃i z,P.info? T=xk i/\i.zero=xk z/\z.cells.size=xq f/\∀(j:Nat) v,z.cells[j]?=xk v->∃x,f[j]?=xk x/\WV v=xk x:=by
 unfold zeroCells at d;simp only[ZdE]at d;have⟨z,⟨i,p,l⟩,k⟩:=d;have⟨n,o⟩:=Aa k;simp_all
def yU{P T i z}(d:P.info? T=xk i)(f:i.zero=xk z)w:(zeroValue T).run P w=.ok z w:=by
 simp[zeroValue,typeInfo,d,f]
def BM{P T}v w:(newVar T v).run P w=.ok ⟨U (R w),0,xw⟩ (w.alloc (.cells v.cells T)):=by
 rfl
def Z8k(x:V):CK:=match x with|.sl _=>CK.nil|_=>.fz
def Z8p{P o v x}(d:WV v=xk x):RelC P B s w h o (Z8k x) (.c x) v:=by
 unfold WV at d;split at d<;>first
  |(simp at d;subst d;first|exact⟨_,rfl,rfl,.int _ _⟩|exact⟨_,rfl,rfl,.bool _⟩|exact⟨_,rfl,rfl,.str _⟩|exact⟨rfl,rfl⟩|exact⟨_,rfl,rfl,.nomp⟩|exact⟨_,rfl,rfl,.nul0⟩|exact⟨_,rfl,rfl,.nul1⟩)
  | (split at d<;>first
    | (rename_i f
       simp at d;subst d;rw[ZeN f.1,ZeN f.2];exact⟨_,rfl,rfl,.fn _⟩)
    |simp at d)
  |simp at d
def Z4E(r:Ok B G w h){T k es}(l:B5 c T=xk (k,es))K d:
  ∃v w',(Instr.alloc T xy (.tuple #[])).run c.P w=.ok v w'/\PRes c B G s w h K d k v w':=by
 unfold B5 at l;simp only[ZdE]at l;have⟨N,J,l⟩:=l;split at l;grind;simp at l;obtain⟨rfl,rfl⟩:=l;have⟨i,z,I,y,u,f⟩:=CJ J;have H:=Zf4 w (.cells z.cells T) xw;have⟨p,t⟩:=qk r H d 0 (n:=U (R w)) (ZdL _) Z1;refine⟨.pointer (xk ⟨U (R w),0,xw⟩),_,?_,_,t,p,?_⟩;simp[Instr.alloc,yU I y,BM];refine⟨U (R w),z.cells,T,by simp[GH.give],rfl,Ze7 w _,ZcK,λj L A=> ?_⟩;simp at A;obtain⟨x,D,rfl⟩:=A;have o:j<z.cells.size:=by rw[u];exact(ZdH.1 D).1
 have⟨M,q,F⟩:=f j z.cells[j] (Zed o);rw[D]at q;cases q;have:z.cells.getD j undef=z.cells[j]:=by simp[o]
 rw[this];exact Z8p F
def Z4I(O:RelG c B G s a w h g)(hC:holds s (ZE c C)){T x k es}(l:B9 c g C T x=xk (k,es))(t:∀e∈es,∃z,eval s e=xk z)tm d:
  ∃v w',(Instr.box T (a.eval x)).run c.P w=.ok v w'/\PRes c B G s w h tm d k v w':=by
 unfold B9 at l;split at l;rename_i e0 hk;split at l;rename_i a0;have⟨y,hy,J⟩:=RR O hC hk;have Z:=Zf4 w (.cells (a.eval x).cells T) xw;have⟨I,W⟩:=qk O.ok Z d 0 (n:=xz (xj w)) (ZdL _) Z1;have Y:=BS O.ok Z O.ok.f_lt;refine⟨.pointer (xk ⟨xz (xj w),0,xw⟩),_,Zdz,_,W,I,?_⟩;generalize a.eval x=v at*;split at l;rename_i o;simp only[o,ZdF,ZdU]at l;obtain⟨rfl,rfl⟩:=l;have⟨z,Q⟩:=t _ (List.Mem.head _);have⟨q,M,N,_⟩:=qo Q;rw[hy]at q;cases q;have⟨K,L,f⟩:=J.cells M;refine⟨xz (xj w),v.cells,T,by simp[GH.give],rfl,Ze7 w _,ZcK,λj ck p=> ?_⟩;simp at p;obtain⟨R,A,rfl⟩:=p;have D:j<c.P.cellsOf T:=by simpa using(ZdH.1 A).1
 have U:R=j:=by simpa[D]using A.symm
 subst U;have H:R<P y.cells:=by rw[N rfl];exact D
 have u:=ZdG H;refine⟨y.cells[R],?_,L _ (Ze0 _),(f R _ u).F.keep Y λb S=>S⟩;have a1:y.pc=y.cells:=by cases y<;>first|rfl|exact absurd rfl (M _)
 simp_all[eval,ZdQ,ZX,YP,if_pos,Ze0];rename_i o;have r:Y3 c.P T=xh:=by simpa using o
 simp only[r,ZdF,ZdU]at l;obtain⟨rfl,rfl⟩:=l;have⟨z,Q⟩:=t _ (List.Mem.head _);have⟨q,M,_,N⟩:=qo Q;rw[hy]at q;cases q;have⟨K,L,f⟩:=J.cells M;have X:=Ti (N rfl);rw[X]at K f;refine⟨xz (xj w),v.cells,T,by simp[GH.give],rfl,Ze7 w _,Z0,λj ck p=> ?_⟩;cases j with
 |zero=>
  simp at p;subst p;exact⟨y,Q,N rfl,(f 0 y rfl).F.keep Y λb S=>S⟩
 |succ j=>simp at p
 grind;grind
def MG off:∀(l:List (Value×Nat)) (d:Array Value) m,(∀i q,l[i]?=xk q->q.2=m+i)->off+m+P l<=d.size->
  (l.foldl (λd (c,j)=>d.setIfInBounds (off+j) c) d).size=d.size/\
  (∀x,x<off+m\/off+m+P l<=x->(l.foldl (λd (c,j)=>d.setIfInBounds (off+j) c) d)[x]?=d[x]?)/\
  ∀i q,l[i]?=xk q->(l.foldl (λd (c,j)=>d.setIfInBounds (off+j) c) d)[off+m+i]?=xk q.1
 | [],d,m,_,_=>⟨rfl,λ_ _=>rfl,λi q k=>by simp at k⟩
 | (v,j)::l,d,m,f,o=>by
   have y:=f 0 (v,j) rfl;subst y;have n:∀i q,l[i]?=xk q->q.2=(j+1)+i:=λi q k=>by
    have:=f (i+1) q ZcJ;omega
   simp at o;have⟨t,p,u⟩:=MG off l (d.setIfInBounds (off+j) v) (j+1) n ZcL;simp only[Zgv];refine⟨by rw[t];simp,λx r=> ?_,λi q k=> ?_⟩;rw[p x (by simp at r;omega),ZeE (by simp at r;omega)];cases i with
   |zero=>
    simp at k;subst k;rw[Zfr,p (off+j) Z0];have:off+j<d.size:=Z0;simp[this]
   |succ i=>
    have:=u i q ZcJ;rw[show off+j+(i+1)=off+(j+1)+i from by omega];exact this
def Z6K off(v:Value)(cs:Array Value)(o:off+v.cells.size<=cs.size):
  (v.cells.zipIdx.foldl (λcs (c,j)=>cs.setIfInBounds (off+j) c) cs).size=cs.size/\
  (∀x,x<off\/off+v.cells.size<=x->(v.cells.zipIdx.foldl (λcs (c,j)=>cs.setIfInBounds (off+j) c) cs)[x]?=cs[x]?)/\
  ∀i,i<v.cells.size->(v.cells.zipIdx.foldl (λcs (c,j)=>cs.setIfInBounds (off+j) c) cs)[off+i]?=v.cells[i]? :=by
 have t:∀i q,v.cells.zipIdx.toList[i]?=xk q->v.cells[i]?=xk q.1/\q.2=0+i:=by
  intro i q f;rw[Zf3,ZhF,ZdI]at f;obtain⟨u,r,rfl⟩:=f;exact⟨r,Z0⟩
 have d:P v.cells.zipIdx.toList=v.cells.size:=Z1;rw[<-Zg8];have⟨k,l,n⟩:=MG off v.cells.zipIdx.toList cs 0 (λi q f=>(t i q f).2) (by rw[d];omega);refine⟨k,λx y=>l x (by rw[d];omega),λi f=> ?_⟩;have p:v.cells.zipIdx.toList[i]?=xk (v.cells[i],0+i):=by
  rw[Zf3,ZhF];simp
 have:=n i _ p;rw[Zfr]at this;rw[this];simp
def jh place:∀parts d,(∀p∈parts,∃off,place p.1=xk (off,p.2.cells.size)/\off+p.2.cells.size<=d.size)->
  ∃R,Instr.fill place d parts=xk R/\R.size=d.size/\
   (∀x,(∀p∈parts,∀off n,place p.1=xk (off,n)->x<off\/off+n<=x)->R[x]?=d[x]?)/\
   ∀pre p f,parts=pre++p::f->∀off,place p.1=xk (off,p.2.cells.size)->(∀q∈f,∀o n,place q.1=xk (o,n)->off+p.2.cells.size<=o\/o+n<=off)->∀j,j<p.2.cells.size->R[off+j]?=p.2.cells[j]?
 | [],d,_=>⟨d,rfl,rfl,λ_ _=>rfl,λpre p f u=>by simp at u⟩
 | (i,v)::parts,d,l=>by
   have⟨off,k,r⟩:=l (i,v) Z1;simp only at k r;have⟨K,H,L⟩:=Z6K off v d r;have⟨R,M,J,t,I⟩:=jh place parts (v.cells.zipIdx.foldl (λd (c,j)=>d.setIfInBounds (off+j) c) d) (λp u=>ZcK);refine⟨R,?_,Z0,λx D=> ?_,λpre p f u F z A j N=> ?_⟩;have:¬(off+v.cells.size>d.size):=Z0;simp only[Instr.fill,k];grind;rw[t x λp u=>D p (by simp[u])];exact H x (D (i,v) Z1 off _ k);obtain _|⟨y,pre⟩:=pre;grind;grind
end
end Vm
namespace Vm
open Go
open Go.RowKit (Below)
def YY:List (CK×E)->List Nat->Nat->Option Nat
 | [],_,_=>xw
 |(.own _,_)::_,t::_,0=>xk t
 |(.own _,_)::r,_::d,i+1=>YY r d i
 |(.own _,_)::_,[],_=>xw
 |_::_,_,0=>xw
 |_::r,d,i+1=>YY r d i
def Xv:List (CK×E)->Nat
 | []=>0
 |(.own _,_)::r=>Xv r+1
 |_::r=>Xv r
theorem C8:∀ {l} {d n:List Nat} {r:List (CK×E)} {i:Nat},Xv l=P d->i<P l->YY (l++r) (d++n) i=YY l d i
 | [],_,_,_,_,_,j=>by simp at j
 | (k,e)::l,d,n,r,i,f,j=>by
   cases k with
   |own o=>
    obtain _|⟨t,d⟩:=d;simp[Xv]at f;simp only[Xv,Zf2,Zhr]at f;cases i with
    |zero=>rfl
    |succ i=>simpa[YY]using C8 f ZcJ
   |_=>
    simp only[Xv]at f;cases i with
    |zero=>rfl
    |succ i=>simpa[YY]using C8 f ZcJ
theorem C9:∀ {l} {d j:List Nat} {r:List (CK×E)} {i:Nat},Xv l=P d->YY (l++r) (d++j) (P l+i)=YY r j i
 | [],d,j,r,i,f=>by
   grind [List.eq_nil_of_length_eq_zero,Xv]
 | (k,e)::l,d,j,r,i,f=>by
   have n:(P l+1+i)=(P l+i)+1:=Z0;cases k with
   |own o=>
    obtain _|⟨t,d⟩:=d;simp[Xv]at f;simp_all[Xv,Zf2,Zhr,ZeT,YY,C9]
   |_=>
    simp only[Xv]at f;simp only[Zf2,ZeT,n,YY];exact C9 f
theorem Hr:∀l r,Xv (l++r)=Xv l+Xv r
 | [],r=>by simp[Xv]
 | (k,e)::l,r=>by
   cases k<;>simp only[ZeT,Xv,Hr l r]<;>omega
section
variable {c:Ctx}{B:Nat}{G:Nat->Prop}{s:St}{a:Act}{w w':World}{h:GH}{g:Gam}{C:ZB}
def BRel(c:Ctx)(B:Nat)(s:St)(a:Act)(w:World)(h:GH)(cs:List (CK×E))(ts sh:List Nat)(i:Nat)(d:CK×E)(v:Value):Prop:=
 match d.1 with
 |.own f=>∃t,YY cs ts i=xk t/\t∈ts/\a.tmps[t]?=xk v/\∃x,eval s d.2=xk x/\OwnV c.P B w h (h.bl t 1) f x v
 |.nil=>v=.slice xw 0 0/\eval s d.2=xk (.sl [])
 |.fz=>∃x,eval s d.2=xk x/\x.one=xy/\Rd w (h.ext sh) x v
 |.dead=>False
def Z8m{q}{z:Array Value}(I:∀(j:Nat) v,z[j]?=xk v->∃x,q[j]?=xk x/\WV v=xk x)(u:z.size=P q)o n:
  Xv (Lc q o n).1=0/\∀y H F i j t,(Lc q o n).1[j]?=xk t->BRel c B s a w h y H F i t (z.getD (o+j) undef):=by
 constructor;unfold Lc;simp only;induction (List.take n (List.drop o q))with
 |nil=>rfl
 |cons x r J=>cases x<;>simp_all[Xv]
 intro y H F i j t A;simp only[Lc,Ze1,ZdI]at A;obtain⟨x,l,rfl⟩:=A;rw[Zej]at l;split at l;rw[Ze9]at l;have k:o+j<z.size:=by rw[u];exact(ZdH.1 l).1
 have⟨K,p,d⟩:=I (o+j) z[o+j] (Zed k);rw[l]at p;cases p;have f:z.getD (o+j) undef=z[o+j]:=by simp[k]
 rw[f];generalize z[o+j]=v at d;unfold WV at d;split at d<;>first
  |(simp at d;subst d;first|exact⟨_,rfl,rfl,.int _ _⟩|exact⟨_,rfl,rfl,.bool _⟩|exact⟨_,rfl,rfl,.str _⟩|exact⟨rfl,rfl⟩|exact⟨_,rfl,rfl,.nomp⟩|exact⟨_,rfl,rfl,.nul0⟩|exact⟨_,rfl,rfl,.nul1⟩)
  | (split at d<;>first
    | (rename_i D
       simp at d;subst d;rw[ZeN D.1,ZeN D.2];exact⟨_,rfl,rfl,.fn _⟩)
    |simp at d)
  |simp at d
 grind
def Z0Y{e}{n j:Nat}{z}(d:eval s (.fld e j)=xk z):∃y,eval s e=xk y/\y.pc[j]?=xk z/\z.one=xy:=by
 grind [eval,Option.bind_eq_some_iff,jn,ZX,TS]
def IB{x:V}(h:∀l,x≠.tup l):x.pc=x.cells:=by
 rfl
def jY(o:RelG c B G s a w h g)(k:holds s (ZE c C)){x d}(hx:Yu g C x=xk d){ag fl n}(F:n≠0){z}
  (q:eval s (WK ag n (XA fl d).1)=xk z):
  (∀l,z≠.tup l)/\(ag=xy->P z.cells=n)/\(ag=xh->z.one=xy)/\Rd w (h.ext (XA fl d).2) z (a.eval x):=by
 have⟨y,p,f⟩:=WD o k (show Yu g C x=xk (d.1,d.2)from hx);have⟨j,u,A,D⟩:=qo q;have⟨H,r,t⟩:=Rp (fl:=fl) (b:=d) p f ⟨z,j⟩;simp_all
def Z4w(S:RelG c B G s a w h g)(R:holds s (ZE c C)){n}(hn:n≠0){ag fl x}{b:BC}(I:B2 g C n ag fl x=xk b)(A:P b.1=n)
  (u:∀o∈b.1,∃z,eval s o.2=xk z):
  Xv b.1=P b.2.2/\(a.eval x).cells.size=n/\∀f,(∀t∈b.2.1,t∈f)->∀j o,b.1[j]?=xk o->BRel c B s a w h b.1 b.2.2 f j o ((a.eval x).cells.getD j undef):=by
 have a3:∀ {b},((Yu g C x).map λa0=>let a:=XA fl a0;let e:=WK ag n a.1;(if ag then(List.range n).map λj=>(CK.fz,E.fld e j)else [(.fz,e)],a.2,[]))=xk b->P b.1=n->(∀o∈b.1,∃z,eval s o.2=xk z)->
   Xv b.1=P b.2.2/\(a.eval x).cells.size=n/\∀f,(∀t∈b.2.1,t∈f)->∀j o,b.1[j]?=xk o->BRel c B s a w h b.1 b.2.2 f j o ((a.eval x).cells.getD j undef):=by
  intro b J A u;simp only[ZdI]at J;obtain⟨L,T,rfl⟩:=J;have D:∀f,(∀t∈(XA fl L).2,t∈f)->∀b,h.ext (XA fl L).2 b->h.ext f b:=by
   intro f d b J;obtain J|⟨p,I,i,hi⟩:=J;exact .inl J;exact .inr ⟨p,d p I,i,hi⟩
  cases ag with
  |true=>
   simp only[Zer]at A u⊢;have h0:=u (CK.fz,E.fld (WK xy n (XA fl L).1) 0) (ZdX.2 ⟨0,ZfW.2 Z0,rfl⟩);have⟨z0,a2⟩:=h0;have⟨y,K,_,_⟩:=Z0Y (n:=n) a2;have⟨W,h2,_,X⟩:=jY S R T hn K;have⟨O,Q,F⟩:=X.cells W;refine⟨?_,ZcK,λf d j o k=> ?_⟩;generalize List.range n=l;induction l with
   |nil=>rfl
   |cons q r ih=>simp_all[Xv]
   simp at k;obtain⟨U,M,rfl⟩:=k;have a1:j<n:=by simpa using(ZdH.1 M).1
   have Y:U=j:=by simpa[a1]using M.symm
   subst Y;have H:y.cells[U]?=xk (y.cells[U]'ZcK):=ZdG _;refine⟨_,?_,Q _ (ZdO H),(F U _ H).mono (D f d)⟩;simp_all[eval,ZdQ,ZX,IB,YP,if_pos,ZdO]
  |false=>
   simp only[ZdZ,Zeu]at A u⊢;have⟨y,K⟩:=u (CK.fz,WK xh n (XA fl L).1) (ZeO.2 rfl);have K:eval s (WK xh n (XA fl L).1)=xk y:=K;have⟨W,_,h3,X⟩:=jY S R T hn K;have⟨O,Q,F⟩:=X.cells W;rw[Ti (h3 rfl)]at O F;refine⟨rfl,ZcK,λf d j o k=> ?_⟩;cases j with
   |zero=>
    simp at k;subst k;exact⟨y,K,h3 rfl,(F 0 y rfl).mono (D f d)⟩
   |succ j=>simp at k
 unfold B2 at I;split at I;rename_i t ty e Z;simp at I;subst I;have⟨v,hv,⟨x,T,ho⟩,_⟩:=S.look R (show look g C t=_ from Z) rfl;have N:v.cells=#[v]:=by
  obtain⟨l,xs,_,_,_,⟨_,hc⟩,_⟩|⟨_,_,_,_,_,_,_,rfl,_⟩:=ho;obtain⟨rfl,_⟩|⟨_,_,_,rfl,_⟩:=hc<;>rfl;rfl
 rw[Act.eval_tmp a t v hv,N];refine⟨rfl,Z0,λf d j o k=> ?_⟩;cases j with
 |zero=>
  simp at k;subst k;exact⟨t,rfl,Z1,by simpa using hv,x,T,by simpa using ho⟩
 |succ j=>simp at k
 rename_i Z;simp at I;subst I;rw[QW S R Z];refine⟨rfl,by grind [Value.cells],λf d j o k=> ?_⟩;cases j with
 |zero=>simp at k;subst k;exact⟨rfl,rfl⟩
 |succ j=>simp at k
 grind
def BRel.left{cs r ts f sh i d v}(j:BRel c B s a w h cs ts sh i d v)(l:Xv cs=P ts)(k:i<P cs):BRel c B s a w h (cs++r) (ts++f) sh i d v:=by
 grind [BRel,C8]
theorem BRel.right{cs r ts f sh i d v}(j:BRel c B s a w h r f sh i d v)(k:Xv cs=P ts):BRel c B s a w h (cs++r) (ts++f) sh (P cs+i) d v:=by
 grind [BRel,C9]
def DL(hr:RelG c B G s a w h g)(hC:holds s (ZE c C)){S parts}{z:Array Value}(hz:∀(j:Nat) v,z[j]?=xk v->∃x,S[j]?=xk x/\WV v=xk x)(Q:z.size=P S)sh:
  ∀H i o b,Jv g C S parts H i o=xk b->(∀d∈b.1,∃z,eval s d.2=xk z)->(∀t∈b.2.1,t∈sh)->
   o+P b.1=P S/\Xv b.1=P b.2.2/\
   (∀q f,H[q]?=xk f->o<=f.1/\f.1+f.2.1<=P S/\(∀(L:Nat) A,H[L]?=xk A->q<L->f.1+f.2.1<=A.1))/\
   (∀q f p,H[q]?=xk f->parts.find? (λp=>p.1==i+q)=xk p->(a.eval p.2).cells.size=f.2.1)/\
   ∀R:Array Value,(∀q f,H[q]?=xk f->∀j,j<f.2.1->R.getD (f.1+j) undef=match parts.find? (λp=>p.1==i+q)with|some p=>(a.eval p.2).cells.getD j undef|none=>z.getD (f.1+j) undef)->
    ∀j d,b.1[j]?=xk d->BRel c B s a w h b.1 b.2.2 sh j d (R.getD (o+j) undef)
 | [],i,o,b,l,_,_=>by
   simp only[Jv]at l;split at l;simp at l;subst l;exact⟨by simpa,rfl,λq f y=>by simp at y,λq f p y=>by simp at y,λR _ j d F=>by simp at F⟩;grind
 |f::H,i,o,b,l,K,O=>by
  simp only[Jv,ZdE]at l;have⟨k,n,l⟩:=l;split at l;rename_i J;have⟨ho,W,hn⟩:=J;simp only[ZdI]at l;obtain⟨b2,T,rfl⟩:=l;simp only[Ze8]at K O;have⟨h1,h2,h3,h4,h5⟩:=DL hr hC hz Q sh H (i+1) (o+f.2.1) b2 T (λd I=>K d (.inr I)) (λt ht=>O t (.inr ht))
  have N:Xv k.1=P k.2.2/\(∀p,parts.find? (λp=>p.1==i)=xk p->(a.eval p.2).cells.size=f.2.1)/\
    ∀j d,k.1[j]?=xk d->BRel c B s a w h k.1 k.2.2 sh j d (match parts.find? (λp=>p.1==i)with|some p=>(a.eval p.2).cells.getD j undef|none=>z.getD (f.1+j) undef):=by
   unfold Iy at n;cases r:parts.find? (λp=>p.1==i)with
   |some p=>
    simp only[r]at n;have⟨k1,k2,k3⟩:=Z4w hr hC hn n W λd I=>K d (.inl I);grind
   |none=>
    simp only[r,ZdF]at n;subst n;have⟨k1,k2⟩:=Z8m (c:=c) (B:=B) (s:=s) (a:=a) (w:=w) (h:=h) hz Q f.1 f.2.1;exact⟨k1,(λp' X=>by cases X),λj d F=>k2 _ _ sh j j d F⟩
  have⟨Z,f2,f3⟩:=N;refine⟨ZcJ,by grind [Hr,List.length_append],λq A y=> ?_,λq A p y hp=> ?_,λR hR j d F=> ?_⟩;cases q with
  |zero=>
   simp at y;subst y;refine⟨Z0,Z0,λL A Y D=> ?_⟩;grind
  |succ q=>
   have⟨g1,g2,g3⟩:=h3 q A ZcJ;refine⟨Z0,g2,λL a0 Y D=> ?_⟩;cases L with
   |zero=>omega
   |succ L=>grind
  cases q with
  |zero=>simp at y;subst y;exact f2 p (by simpa using hp)
  |succ q=>exact h4 q A p ZcJ (by rw[show i+1+q=i+(q+1)from by omega];exact hp)
  by_cases D:j<P k.1;rw[Zea D]at F;have M:=hR 0 f rfl j Z0;rw[ho]at M;rw[M];have:=f3 j d F;rw[ho]at this;exact(this).left Z D;rw[Ze6 Z0]at F
  have:=h5 R (λq A y j' U=>by
   have:=hR (q+1) A ZcJ j' U;grind) (j-P k.1) d F
  have u:=this.right (cs:=k.1) (ts:=k.2.2) Z;rw[show P k.1+(j-P k.1)=j from by omega]at u;rw[show o+f.2.1+(j-P k.1)=o+j from by omega]at u;exact u;grind
def Au:∀ {l},TQ l=xy->l.Nodup
 | [],_=>List.nodup_nil
 |x::l,d=>by
  simp only[TQ,ZdJ,ZeH,Zfc,ZgD]at d;exact ZfI.2 ⟨d.1,Au d.2⟩
def EI{β:Type}:∀ {l:List (Nat×β)} {p:Nat×β},(l.map (·.1)).Nodup->p∈l->l.find? (λq=>q.1==p.1)=xk p
 | [],p,_,d=>Zdn
 |q::l,p,f,d=>by
  simp only[Zee,ZfI]at f;obtain rfl|d:=Ze3.1 d;simp;have j:q.1≠p.1:=λk=>f.1 (by rw[k];exact ZdX.2 ⟨p,d,rfl⟩);rw[List.find?_cons_of_neg ZdD];exact EI f.2 d
def Gx{α β:Type}{f}{g:α->β}:∀(l:List α),(∀x∈l,f x=xk (g x))->l.mapM f=xk (l.map g)
 | [],_=>rfl
 |x::l,d=>by
  simp_all[Zg5,Gx]
def Z16{β:Type}{n q f}{x:β}(h:((List.range n).map f)[q]?=xk x):q<n/\x=f q:=by
 grind
def Mp(hr:RelG c B G s a w h g)(hC:holds s (ZE c C)){T fs}(Y:yq c.P T=xk fs){zs}(hz:zeroCells c.P T=xk zs){parts:Array (Nat×Operand)}{b}
  (hb:Lw g C zs parts.toList fs=xk b) (b0:∀ck∈b.1,∃z,eval s ck.2=xk z):
  ∃vs,(Instr.build T (parts.map λ(i,x)=>(i,a.eval x))).run c.P w=.ok (.agg vs) w/\vs.size=P b.1/\Xv b.1=P b.2.2/\
   ∀j ck,b.1[j]?=xk ck->BRel c B s a w h b.1 b.2.2 b.2.1 j ck (vs.getD j undef):=by
 unfold Lw at hb;split at hb;rename_i I;simp only[ZdJ,ZdR,Ze2]at I;have⟨A,b4⟩:=I;have A:=Au A;have⟨i,z,hi,a8,a3,N⟩:=CJ hz
 obtain⟨place,k,H⟩:∃place,(∀q f,fs[q]?=xk f->place q=xk (f.1,f.2.1))/\
   ∀ps R,Instr.fill place z.cells ps=xk R->c.P.built T ps=xk R:=by
  unfold yq at Y;split at Y;rename_i b7 a4;cases Y;obtain⟨W,hu,a0,rfl⟩:=N8 a4;have b5:W.toList.mapM (λf=>(c.P.info? f.type).map λi=>(f.offset,i.size))=xk (W.toList.map λf=>(f.offset,c.P.cellsOf f.type)):=by
   apply Gx;intro f hf;have⟨d,i,hd,hi,hs,_⟩:=VW (a0 f (Array.mem_toList_iff.1 hf));simp[hi,hs]
  refine⟨λx=>(W.toList.map λf=>(f.offset,c.P.cellsOf f.type)).toArray[x]?,λq f S=> ?_,λps R hR=> ?_⟩;simp at S;obtain⟨L,O,rfl⟩:=S;simp[O];simp only[Program.built,hi,hu,a8,b5];exact hR;rename_i n el a4;split at Y;rename_i a0;cases Y;have hu:=Cp a4;have⟨d,i',hd,b1,hs,_⟩:=VW a0;refine⟨λx=>xk (x*c.P.cellsOf el,c.P.cellsOf el),λq f S=> ?_,λps R hR=> ?_⟩;obtain⟨_,rfl⟩:=Z16 S;rfl;simp only[Program.built,hi,hu,a8,b1,<-hs];exact hR;cases Y;cases Y
 have⟨h1,h2,h3,h4,h5⟩:=DL hr hC N a3 b.2.1 _ 0 0 b hb b0 (λt ht=>ht);simp only[Zet]at h1 h4 h5;have y:∀p∈parts.toList,∃f,fs[p.1]?=xk f/\(a.eval p.2).cells.size=f.2.1:=by
  intro p hp;have hl:=b4 p hp;refine⟨_,ZdG hl,h4 p.1 _ p (ZdG hl) (EI A hp)⟩
 have⟨R,hR,a9,X,a5⟩:=jh place (parts.toList.map λp=>(p.1,a.eval p.2)) z.cells (by
  intro p hp;obtain⟨K,u,rfl⟩:=ZdX.1 hp;have⟨f,hf,D⟩:=y K u;refine⟨f.1,by rw[k _ f hf,D],?_⟩;simp only;rw[D,a3];exact(h3 _ f hf).2.1)
 have M:c.P.built T (parts.map λ(i,x)=>(i,a.eval x)).toList=xk R:=H _ _ (by simpa only[Zf1]using hR);refine⟨R,run_build w T _ R M,by rw[a9,a3];omega,h2,λj ck hj=>h5 R (λq f S j' b3=> ?_) j ck hj⟩;have J:∀q' L,fs[q']?=xk L->q'≠q->f.1+f.2.1<=L.1\/L.1+L.2.1<=f.1:=by
  intro q' L U Z;obtain hl|hl:=ZgB Z;exact .inr ((h3 q' L U).2.2 q f S hl);exact .inl ((h3 q f S).2.2 q' L U hl)
 cases r:parts.toList.find? (λp=>p.1==q)with
 |some p=>
  have a7:=Zgn r;have a1:p.1=q:=by simpa using Zh8 r
  have⟨pre,b6,a2⟩:=List.append_of_mem a7;have⟨L,O,D⟩:=y p a7;rw[a1,S]at O;cases O
  have b2:=a5 (pre.map λp=>(p.1,a.eval p.2)) (p.1,a.eval p.2) (b6.map λp=>(p.1,a.eval p.2)) (by rw[a2];simp) f.1 (by rw[a1,k q f S,D]) (by
   intro q' U o n Q;obtain⟨K,u,rfl⟩:=ZdX.1 U;have⟨F,l,_⟩:=y K (by rw[a2];simp[u]);simp only at Q;rw[k _ F l]at Q;simp at Q;obtain⟨rfl,rfl⟩:=Q;simp only;rw[D];refine J K.1 F l λhe=> ?_;rw[a2]at A;simp only[Zf6,Zee,ZgJ,ZfI]at A;exact A.2.1.1 (by rw[a1,<-he];exact ZdX.2 ⟨K,u,rfl⟩)) j' (by simp only;rw[D];exact b3)
  simp;rw[b2]
 |none=>
  have a6:=X (f.1+j') (by
   intro p hp off n Q;obtain⟨K,u,rfl⟩:=ZdX.1 hp;have⟨F,l,_⟩:=y K u;simp only at Q;rw[k _ F l]at Q;simp at Q;obtain⟨rfl,rfl⟩:=Q;have Z:K.1≠q:=λhe=>by
    have:=List.find?_eq_none.1 r K u;simp[he]at this
   have:=J K.1 F l Z;omega)
  simp;rw[a6]
 simp at hb
end
end Vm
end
