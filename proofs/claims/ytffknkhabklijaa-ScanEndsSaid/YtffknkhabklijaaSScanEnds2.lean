import Derived.WalkKit
import Derived.Test.YtffknkhabklijaaSScanEnds1
set_option linter.unusedSimpArgs false
set_option linter.unusedVariables false
set_option linter.defProp false
open Option renaming some→xk,none→xw
open Bool renaming true→xy,false→xh
open List renaming length→P
open Array renaming size→U
open Go.World renaming heap→R
open List renaming length→xq
open Array renaming size→xz
open Go.World renaming heap→xj
theorem Zdj{p:Prop}(h:p:=by simp at h):p:=h
theorem Zdo{p:Prop}(h:p:=by simp at d):p:=h
theorem Zds{p:Prop}(h:p:=by have:=I p d;simp[Uo]at this;exact this A):p:=h
theorem ZdB{p:Prop}(h:p:=by rfl):p:=h
theorem Zdq{p:Prop}(h:p:=by simp[Builtin.len_,run_underlying f,goInt]):p:=h
theorem Zdg{p:Prop}(h:p:=by rw[j.1];exact(List.getElem?_eq_some_iff.1 t).1):p:=h
theorem Zdk{p:Prop}(h:p:=by rw[cell_of_row w b o vs J (0,0) I];simp_all):p:=h
theorem Zd1{p:Prop}(h:p:=by simp[E.sure]at h):p:=h
theorem ZdF{p:Prop}(h:p:=by simpa using j):p:=h
def Zeu:=@List.length_append
def Zfa:=@Nat.succ_mul
def Zed:=@List.getElem?_append_left
def Ze8:=@List.getElem?_append_right
def ZeF:=@List.mem_of_mem_take
def ZeW:=@List.length_take
def ZhW:=@Nat.min_eq_left
def ZeM:=@List.take_of_length_le
def Zeq:=@Nat.mul_le_mul_right
def Zfv:=@List.drop_of_length_le
def ZdQ:=@List.mem_of_getElem?
def ZeE:=@Go.World.cell?_of_block
def ZdT:=@List.all_eq_true
def ZeP:=@Array.eq_empty_of_size_eq_zero
def ZeD:=@List.eq_nil_of_length_eq_zero
def ZdV:=@Go.cell_of_row
def Zel:=@List.getElem?_take
def ZdH:=@Option.some.injEq
def ZdG:=@Option.bind_eq_some_iff
def ZdJ:=@List.getElem?_eq_some_iff
def ZgK:=@List.any_eq_false
def ZgW:=@Bool.not_eq_true
def Zei:=@Go.RowKit.Below.refl
def ZeR:=@Option.isSome_iff_exists
def Zex:=@Go.run_underlying
def Zfr:=@Go.Addr.add_lit
def ZdI:=@List.getElem?_eq_getElem
def ZfH:=@List.ext_getElem?
def Zee:=@List.getElem?_of_mem
def Zec:=@List.getElem?_drop
def Zf5:=@Array.getElem?_toList
def Zem:=@List.length_map
def Zfn:=@List.getElem?_toArray
def Zf1:=@Nat.add_assoc
def Zhs:=@List.length_range
def Zff:=@List.mem_of_mem_drop
def ZdX:=@Int.eq_ofNat_of_zero_le
def ZdY:=@Int.toNat_natCast
def Ze2:=@List.getElem_mem
def ZhF:=@Array.getElem?_extract
def ZgI:=@List.drop_eq_nil_of_le
def ZfG:=@Nat.sub_self
def Zfc:=@List.take_length
def Zf6:=@Go.World.grownBy_alloc
def Ze9:=@Go.heap_alloc_new
def ZhI:=@Array.getElem?_zipIdx
def Zf4:=@List.length_cons
def Zht:=@Nat.add_right_cancel_iff
def Ze3:=@List.getElem?_map
def ZfY:=@List.mem_range
def Zfe:=@List.contains_eq_mem
def ZgG:=@decide_eq_false_iff_not
def ZfK:=@List.nodup_cons
def Ze4:=@decide_eq_true_eq
def ZgE:=@Nat.lt_or_gt_of_ne
def Zgo:=@List.mem_of_find?_eq_some
def Zha:=@List.find?_some
def Zf8:=@List.map_append
def ZgL:=@List.nodup_append
section
namespace Vm
open Go
inductive V where
 |int (k:IntKind) (n:Int)
 |bool (b:Bool)
 |str (s:ByteArray)
 |sl (l:List V)
 |agg (cs:List V)
 |tup (l:List V)
 |ptr (cs:List V)
 |fn (f:FuncId)
 |mp (id:Nat) (ks vs:List V)
 |clo (f:FuncId) (cs:List V)
 |nul (k:Nat)
 deriving Inhabited
def V.cells:V->List V
 |.agg d=>d
 |x=>[x]
def V.one:V->Bool
 |.agg _|.tup _=>xh
 |_=>xy
def V.fits(k:Nat)(x:V):Prop:=P x.cells=k/\∀c∈x.cells,c.one=xy
def flat(l:List V):List V:=l.flatMap V.cells
def Z0V:flat []=[]:=rfl
def SB x l:flat (x::l)=x.cells++flat l:=rfl
theorem jw l r:flat (l++r)=flat l++flat r:=by simp[flat]
def TB{k}:∀ {l},(∀x∈l,x.fits k)->P (flat l)=P l*k
 | [],_=>by simp[flat]
 |x::l,h=>by
  rw[SB,Zeu,(h x Z1).1,TB (λy d=>h y (by simp[d]))];simp[Zfa,ZgU]
def Vr{k}:∀ {l} {i:Nat} {x:V},(∀x∈l,x.fits k)->l[i]?=xk x->∀j,j<k->(flat l)[i*k+j]?=x.cells[j]?
 | [],i,x,_,h,_,_=>Zdj
 |y::l,0,x,d,h,j,f=>by
  simp at h;subst h;rw[SB,Nat.zero_mul,Zev,Zed (by rw[(d y Z1).1];exact f)]
 |y::l,i+1,x,d,h,j,f=>by
  rw[SB,Ze8 (by rw[(d y Z1).1];rw[Zfa];omega),(d y Z1).1,
   show(i+1)*k+j-k=i*k+j from by rw[Zfa];omega]
  exact Vr (λz n=>d z (by simp[n])) (by simpa using h) j f
def Z0W{k l}(h:∀x∈l,x.fits k)n:flat (l.take n)=(flat l).take (n*k):=by
 by_cases d:n<=P l;have j:P (flat (l.take n))=n*k:=by
  rw[TB (λx f=>h x (ZeF f)),ZeW,ZhW d]
 grind [flat,jw,List.take_append_drop,List.take_left];rw[ZeM Z0,ZeM];rw[TB h];exact Zeq _ Z0
def Z0T{k l}(h:∀x∈l,x.fits k)n:flat (l.drop n)=(flat l).drop (n*k):=by
 by_cases d:n<=P l;have j:P (flat (l.take n))=n*k:=by
  rw[TB (λx f=>h x (ZeF f)),ZeW,ZhW d]
 grind [flat,jw,List.take_append_drop,List.drop_left];rw[Zfv Z0,Zfv,Z0V];rw[TB h];exact Zeq _ Z0
def Z0U{l}{i:Nat}{c}(h:(flat l)[i]?=xk c):∃x∈l,c∈x.cells:=by
 have:=ZdQ h;simp_all[flat]
inductive Rd (w:World) (G:Nat->Prop):V->Value->Prop where
 |int (k:IntKind) (n:Int):Rd w G (.int k n) (.int k n)
 |bool (b:Bool):Rd w G (.bool b) (.bool b)
 |str (s:ByteArray):Rd w G (.str s) (.string s)
 |nil (a:Option Addr) (cap:Nat):cap<=maxLen->Rd w G (.sl []) (.slice a 0 cap)
 |sl (l:List V) (b o cap k:Nat) (vs:Nat->Value):l.length<=cap->cap<=maxLen->G b->(∀x∈l,x.fits k)->
   (∀i,i<l.length*k->w.cell? ⟨b,o+i,none⟩=some (vs i))->(∀i c,(flat l)[i]?=some c->Rd w G c (vs i))->
   Rd w G (.sl l) (.slice (some ⟨b,o,none⟩) l.length cap)
 |agg (cs:List V) (vs:Array Value):vs.size=cs.length->(∀c∈cs,c.one=true)->(∀i c,cs[i]?=some c->Rd w G c (vs.getD i undef))->Rd w G (.agg cs) (.agg vs)
 |tup (l:List V) (vs:Array Value):vs.size=l.length->(∀i c,l[i]?=some c->Rd w G c (vs.getD i undef))->Rd w G (.tup l) (.tuple vs)
 |ptr (cs:List V) (b o:Nat) (vs:Nat->Value):G b->(∀c∈cs,c.one=true)->(∀i,i<cs.length->w.cell? ⟨b,o+i,none⟩=some (vs i))->
   (∀i c,cs[i]?=some c->Rd w G c (vs i))->Rd w G (.ptr cs) (.pointer (some ⟨b,o,none⟩))
 |fn (f:FuncId):Rd w G (.fn f) (.func (.func f) #[] #[])
 |clo (f:FuncId) (cs:List V) (vs:Array Value):vs.size=cs.length->(∀i c,cs[i]?=some c->Rd w G c (vs.getD i undef))->Rd w G (.clo f cs) (.func (.func f) #[] vs)
 |nul0:Rd w G (.nul 0) (.pointer none)
 |nul1:Rd w G (.nul 1) .nilFunc
 |nomp:Rd w G (.mp 0 [] []) (.map none)
 |mp (id:Nat) (ks xs:List V) (b clk:Nat) (es:Array MapEntry):(id=0\/id=b+1)->G b->w.heap[b]?=some (.map es clk)->ks.length=es.size->xs.length=es.size->
   (∀i c,ks[i]?=some c->Rd w G c (es.getD i default).key)->(∀i c,xs[i]?=some c->Rd w G c (es.getD i default).val)->Rd w G (.mp id ks xs) (.map (some b))
def Same(G:Nat->Prop)(w w':World):Prop:=∀b,G b->w'.heap[b]?=w.heap[b]?
def Same.refl G w:Same G w w:=λ_ _=>rfl
theorem Same.trans{G a b c}(h:Same G a b)(k:Same G b c):Same G a c:=λx d=>(k x d).trans (h x d)
def Same.cell{G w w'}(h:Same G w w'){b o}(d:G b):w'.cell? ⟨b,o,xw⟩=w.cell? ⟨b,o,xw⟩:=
 ZeE (h b d)
def Rd.keep{w w' G G' x v}(h:Rd w G x v)(z:Same G w w')(y:∀b,G b->G' b):Rd w' G' x v:=by
 induction h with
 |int k n=>exact .int k n
 |bool b=>exact .bool b
 |str s=>exact .str s
 |nil a cap I=>exact .nil a cap I
 |sl l b o cap k vs d p r u M _ j=>exact .sl l b o cap k vs d p (y _ r) u (λi J=>by rw[z.cell r];grind) j
 |agg q vs d p _ j=>exact .agg q vs d p j
 |tup l vs d _ j=>exact .tup l vs d j
 |ptr q b o vs d p r _ j=>exact .ptr q b o vs (y _ d) p (λi J=>by rw[z.cell d];grind) j
 |fn f=>exact .fn f
 |clo f q vs d _ j=>exact .clo f q vs d j
 |nul0=>exact .nul0
 |nul1=>exact .nul1
 |nomp=>exact .nomp
 |mp id K L b t F H d p r u _ _ A D=>exact .mp id K L b t F H (y _ d) (by rw[z b d];exact p) r u A D
def Rd.mono{w G G' x v}(h:Rd w G x v)(d:∀b,G b->G' b):Rd w G' x v:=h.keep (.refl _ _) d
def Rd.one_eq{w G x v}(h:Rd w G x v):v.oneCell'=x.one:=by
 cases h<;>rfl
theorem Rd.cells{w G x v}(h:Rd w G x v)(M:∀l,x≠.tup l):v.cells.size=P x.cells/\(∀c∈x.cells,c.one=xy)/\∀i c,x.cells[i]?=xk c->Rd w G c (v.cells.getD i undef):=by
 have d:∀ {x} {v:Value},Rd w G x v->x.one=xy->v.cells=#[v]->x.cells=[x]->v.cells.size=P x.cells/\(∀c∈x.cells,c.one=xy)/\∀i c,x.cells[i]?=xk c->Rd w G c (v.cells.getD i undef):=by
  intro x v h j I J;rw[I,J];refine⟨rfl,ZcK,λi c H=> ?_⟩;cases i with
  |zero=>simp_all
  |succ i=>simp at H
 cases h with
 |agg t vs j p q=>exact⟨j,p,q⟩
 |tup l vs _ _=>simp_all
 |int k n=>exact d (.int k n) rfl rfl rfl
 |bool b=>exact d (.bool b) rfl rfl rfl
 |str s=>exact d (.str s) rfl rfl rfl
 |nil a cap F=>exact d (.nil a cap F) rfl rfl rfl
 |sl l b o cap k vs j p q r y z=>exact d (.sl l b o cap k vs j p q r y z) rfl rfl rfl
 |ptr t b o vs j p q r=>exact d (.ptr t b o vs j p q r) rfl rfl rfl
 |fn f=>exact d (.fn f) rfl rfl rfl
 |clo f t vs j p=>exact d (.clo f t vs j p) rfl rfl rfl
 |nul0=>exact d .nul0 rfl rfl rfl
 |nul1=>exact d .nul1 rfl rfl rfl
 |nomp=>exact d .nomp rfl rfl rfl
 |mp id K L b u A D j p q r y z=>exact d (.mp id K L b u A D j p q r y z) rfl rfl rfl
end Vm
namespace Vm
open Go
inductive KC where
 |b|i (k:IntKind)|s
 deriving DecidableEq,Inhabited
inductive E where
 |c (v:V)
 |s (t:Nat)
 |m (t i:Nat)
 |mm (t i n:Nat)
 |bin (op:BinOp) (a b:E)
 |eqv (neg:Bool) (a b:E)
 |un (op:UnOp) (a:E)
 |conv (k:IntKind) (a:E)
 |len (a:E)
 |mn (a b:E)
 |mx (a b:E)
 |ext (a:E) (i:Nat)
 |idx (a i:E) (k:Nat)
 |fld (a:E) (o:Nat)
 |flds (a:E) (o n:Nat)
 |ai (a i:E) (n k:Nat) (ag:Bool)
 |slc (a lo hi:E) (k:Nat)
 |slcl (a lo:E) (k:Nat)
 |app (a b:E) (k:Nat)
 |upd (a i:E) (o:Nat) (b:E)
 |aput (a i:E) (n k:Nat) (b:E)
 |mk (z:V) (n:E)
 |lit (l:List E)
 |ag (l:List E)
 |ite (c a b:E)
 |star (a:E)
 |isag (a:E)
 |one (a:E)
 |sz (a:E) (n:Nat)
 |fl (a:E)
 |fls (a:E)
 |lk (kc:KC) (a k:E) (z:V) (ok:Bool)
 |mput (kc:KC) (a k v:E)
 |mlen (a:E)
 |mclr (a:E)
 |pt (f:Option FuncId) (l:List E)
 deriving Inhabited
inductive SV where
 |no
 |v (x:V)
 |m (cs:List V)
 deriving Inhabited
abbrev St:=List SV
def get(s:St)(t:Nat):SV:=(s[t]?).getD .no
def Y5:Nat:=4294967296
def Xe:BinOp->V->V->Option V
 |.add,.int k a,.int d b=>if k=d then xk (.int k (k.wrap (a+b)))else xw
 |.sub,.int k a,.int d b=>if k=d then xk (.int k (k.wrap (a-b)))else xw
 |.mul,.int k a,.int d b=>if k=d then xk (.int k (k.wrap (a*b)))else xw
 |.quo,.int k a,.int d b=>if k=d/\b≠0 then xk (.int k (k.wrap (a.tdiv b)))else xw
 |.rem,.int k a,.int d b=>if k=d/\b≠0 then xk (.int k (a.tmod b))else xw
 |.and,.int k a,.int d b=>if k=d then xk (.int k (k.wrap (BitVec.ofInt k.bits a&&& BitVec.ofInt k.bits b).toNat))else xw
 |.or,.int k a,.int d b=>if k=d then xk (.int k (k.wrap (BitVec.ofInt k.bits a|||BitVec.ofInt k.bits b).toNat))else xw
 |.xor,.int k a,.int d b=>if k=d then xk (.int k (k.wrap (BitVec.ofInt k.bits a ^^^ BitVec.ofInt k.bits b).toNat))else xw
 |.shl,.int k a,.int _ b=>if 0<=b then xk (.int k (k.wrap (a*2 ^ (min b.toNat k.bits))))else xw
 |.shr,.int k a,.int _ b=>if 0<=b then xk (.int k (a.fdiv (2 ^ (min b.toNat k.bits))))else xw
 |.eql,.int k a,.int d b=>if k=d then xk (.bool (a==b))else xw
 |.neq,.int k a,.int d b=>if k=d then xk (.bool (a !=b))else xw
 |.lss,.int k a,.int d b=>if k=d then xk (.bool (decide (a<b)))else xw
 |.leq,.int k a,.int d b=>if k=d then xk (.bool (decide (a<=b)))else xw
 |.gtr,.int k a,.int d b=>if k=d then xk (.bool (decide (a>b)))else xw
 |.geq,.int k a,.int d b=>if k=d then xk (.bool (decide (a≥b)))else xw
 |_,_,_=>xw
def Sx(neg:Bool):V->V->Option V
 |.bool a,.bool b=>xk (.bool (neg ^^ (a==b)))
 |_,_=>xw
def Se:UnOp->V->Option V
 |.neg,.int k n=>xk (.int k (k.wrap (0-n)))
 |.not,.bool b=>xk (.bool !b)
 |_,_=>xw
def Qu(k:IntKind):V->Option V
 |.int _ n=>xk (.int k (k.wrap n))
 |_=>xw
def RL:V->Option V
 |.sl l=>xk (.int .i64 (P l))
 |_=>xw
def RR:V->V->Option V
 |.int k x,.int _ y=>xk (.int k (if y<x then y else x))
 |_,_=>xw
def RQ:V->V->Option V
 |.int k x,.int _ y=>xk (.int k (if y>x then y else x))
 |_,_=>xw
def Tz:V->Nat->Option V
 |.tup l,i=>l[i]?
 |_,_=>xw
def X5(x i:V)(k:Nat):Option V:=
 match x,i with
 |.sl l,.int _ i=>if 0<=i then(l[i.toNat]?).bind λz=>if P z.cells=k then xk z else xw else xw
 |_,_=>xw
def V.pc:V->List V
 |.agg d=>d
 |x=>[x]
def UP:V->Option V
 |.ptr d=>xk (.agg d)
 |_=>xw
def YQ(x:V):Option V:=if x.one then xk x else xw
def Vk(x:V)(n:Nat):Option V:=if P x.cells=n then match x with|.tup _=>xw|x=>xk x else xw
def RF:V->Option V
 |.agg d=>xk (.agg d)
 |_=>xw
def ZY(x:V)(o:Nat):Option V:=(x.pc[o]?).bind YQ
def Xr(k:Nat)(l:List V):Bool:=l.all λx=>P x.cells==k
def Ua(x:V)(o n:Nat):Option V:=if o+n<=(P x.pc) then xk (.agg ((x.pc.drop o).take n))else xw
def Y6(x i:V)(n k:Nat)(ag:Bool):Option V:=
 match x,i with
 |.agg d,.int _ i=>if 0<=i/\i<n/\P d=n*k then(if ag then xk (.agg ((d.drop (i.toNat*k)).take k))else d[i.toNat*k]?)else xw
 |_,_=>xw
def R1(k:Nat):V->V->V->Option V
 |.sl l,.int _ a,.int _ b=>if 0<=a/\a<=b/\b<=P l/\Xr k l=xy then xk (.sl ((l.take b.toNat).drop a.toNat))else xw
 |_,_,_=>xw
def Q8(k:Nat):V->V->Option V
 |.sl l,.int _ a=>if 0<=a/\a<=P l/\Xr k l=xy then xk (.sl (l.drop a.toNat))else xw
 |_,_=>xw
def Rg(k:Nat):V->V->Option V
 |.sl a,.sl b=>if P a+P b<=Y5/\Xr k b=xy then xk (.sl (a++b))else xw
 |_,_=>xw
def setCells(cs:List V)(o:Nat)(b:List V):List V:=cs.take o++b++cs.drop (o+P b)
def V.put(x:V)(o:Nat)(b:List V):V:=
 match x with
 |.agg d=>.agg (setCells d o b)
 |_=>b.headD x
def R6(x i:V)(o:Nat)(b:V):Option V:=
 match x,i with
 |.sl l,.int _ i=>if 0<=i then(l[i.toNat]?).bind λy=>if o+P b.cells<=P y.cells/\b.cells≠[]then xk (.sl (l.set i.toNat (y.put o b.cells)))else xw else xw
 |_,_=>xw
def Uu(x i:V)(n k:Nat)(b:V):Option V:=
 match x,i with
 |.agg d,.int _ i=>if 0<=i/\i<n/\P d=n*k/\P b.cells=k then xk (.agg (setCells d (i.toNat*k) b.cells))else xw
 |_,_=>xw
def Ke(z:V):V->Option V
 |.int _ n=>if 0<=n/\n<=Y5 then xk (.sl (List.replicate n.toNat z))else xw
 |_=>xw
def Tt(l:List V):V:=.agg (flat l)
def V.flatc:V->Bool
 |.int .. |.bool _|.str _=>xy
 |_=>xh
def Wm(x:V):Option V:=
 match x with
 |.tup _=>xw
 |x=>if x.cells.all V.flatc then xk x else xw
def jA(x:V):Option V:=
 match x with
 |.sl l=>if(Vm.flat l).all V.flatc then xk x else xw
 |_=>xw
def Ka:V->V->Option Bool
 |.int k a,.int d b=>if k=d then xk (a==b)else xw
 |.bool a,.bool b=>xk (a==b)
 |.str a,.str b=>xk (a==b)
 |_,_=>xw
def T6(k:V):List V->Option (Option Nat)
 | []=>xk xw
 |y::l=>match Ka k y with
  |some xy=>xk (xk 0)
  |some xh=>(T6 k l).map λr=>r.map (· +1)
  |none=>xw
def WZ:KC->V->Bool
 |.b,.bool _=>xy
 |.i k,.int d _=>decide (k=d)
 |.s,.str _=>xy
 |_,_=>xh
def Ue(d:KC)(x k z:V)(ok:Bool):Option V:=
 if WZ d k=xh then xw else
 match x with
 | .mp _ f vs=>match T6 k f with
   |some (xk i)=>(vs[i]?).map λv=>if ok then .tup [v,.bool xy]else v
   |some xw=>xk (if ok then .tup [z,.bool xh]else z)
   |none=>xw
 |_=>xw
def UG(f:KC)(x k v:V):Option V:=
 if WZ f k=xh then xw else
 match x with
 | .mp id d vs=>match T6 k d with
   |some (xk i)=>xk (.mp id d (vs.set i v))
   |some xw=>xk (.mp id (d++[k]) (vs++[v]))
   |none=>xw
 |_=>xw
def Kc:V->Option V
 |.mp id _ _=>xk (.mp id [] [])
 |_=>xw
def SJ:V->Option V
 |.mp _ d _=>xk (.int .i64 (P d))
 |_=>xw
def QM(c:V)(a b:Option V):Option V:=
 match c with
 |.bool xy=>a
 |.bool xh=>b
 |_=>xw
def KI(f:Option FuncId)(l:List V):Option V:=
 match f with
 |none=>if l.all V.one then xk (.ptr l)else xw
 |some f=>xk (.clo f l)
mutual
def eval(s:St):E->Option V
 |.c v=>xk v
 |.s t=>match get s t with|.v x=>xk x|_=>xw
 |.m t i=>match get s t with|.m d=>(d[i]?).bind YQ|_=>xw
 |.mm t i n=>match get s t with|.m d=>if i+n<=(P d) then xk (.agg ((d.drop i).take n))else xw|_=>xw
 |.bin op a b=>(eval s a).bind λx=>(eval s b).bind λy=>Xe op x y
 |.eqv n a b=>(eval s a).bind λx=>(eval s b).bind λy=>Sx n x y
 |.un op a=>(eval s a).bind (Se op)
 |.conv k a=>(eval s a).bind (Qu k)
 |.len a=>(eval s a).bind RL
 |.mn a b=>(eval s a).bind λx=>(eval s b).bind λy=>RR x y
 |.mx a b=>(eval s a).bind λx=>(eval s b).bind λy=>RQ x y
 |.ext a i=>(eval s a).bind λx=>Tz x i
 |.idx a i k=>(eval s a).bind λx=>(eval s i).bind λy=>X5 x y k
 |.fld a o=>(eval s a).bind λx=>ZY x o
 |.flds a o n=>(eval s a).bind λx=>Ua x o n
 |.ai a i n k ag=>(eval s a).bind λx=>(eval s i).bind λy=>Y6 x y n k ag
 |.slc a p q k=>(eval s a).bind λx=>(eval s p).bind λy=>(eval s q).bind λz=>R1 k x y z
 |.slcl a p k=>(eval s a).bind λx=>(eval s p).bind λy=>Q8 k x y
 |.app a b k=>(eval s a).bind λx=>(eval s b).bind λy=>Rg k x y
 |.upd a i o b=>(eval s a).bind λx=>(eval s i).bind λy=>(eval s b).bind λz=>R6 x y o z
 |.aput a i n k b=>(eval s a).bind λx=>(eval s i).bind λy=>(eval s b).bind λz=>Uu x y n k z
 |.mk z n=>(eval s n).bind (Ke z)
 |.lit l=>(YC s l).map .sl
 |.ag l=>(YC s l).map Tt
 |.ite c a b=>(eval s c).bind λx=>QM x (eval s a) (eval s b)
 |.star a=>(eval s a).bind UP
 |.isag a=>(eval s a).bind RF
 |.one a=>(eval s a).bind YQ
 |.sz a n=>(eval s a).bind λx=>Vk x n
 |.fl a=>(eval s a).bind Wm
 |.fls a=>(eval s a).bind jA
 |.lk j a k z ok=>(eval s a).bind λx=>(eval s k).bind λy=>Ue j x y z ok
 |.mput j a k v=>(eval s a).bind λx=>(eval s k).bind λy=>(eval s v).bind λz=>UG j x y z
 |.mlen a=>(eval s a).bind SJ
 |.mclr a=>(eval s a).bind Kc
 |.pt f l=>(YC s l).bind (KI f)
def YC(s:St):List E->Option (List V)
 | []=>xk []
 |e::l=>(eval s e).bind λx=>(YC s l).map (x:: ·)
end
mutual
def V.same:V->V->Bool
 |.int k n,.int l o=>decide (k=l)&&decide (n=o)
 |.bool a,.bool b=>a==b
 |.sl a,.sl b=>V.sames a b
 |.agg a,.agg b=>V.sames a b
 |.tup a,.tup b=>V.sames a b
 |.fn a,.fn b=>a==b
 |.mp i a b,.mp j d f=>i==j&&V.sames a d&&V.sames b f
 |_,_=>xh
def V.sames:List V->List V->Bool
 | [],[]=>xy
 |a::l,b::r=>V.same a b&&V.sames l r
 |_,_=>xh
end
mutual
def E.same:E->E->Bool
 |.c a,.c b=>V.same a b
 |.s a,.s b=>a==b
 |.m a i,.m b j=>a==b&&i==j
 |.mm a i n,.mm b j y=>a==b&&i==j&&n==y
 |.bin o a b,.bin x p t=>decide (o=x)&&E.same a p&&E.same b t
 |.eqv o a b,.eqv x p t=>o==x&&E.same a p&&E.same b t
 |.un o a,.un x p=>decide (o=x)&&E.same a p
 |.conv k a,.conv u p=>decide (k=u)&&E.same a p
 |.len a,.len b=>E.same a b
 |.mn a b,.mn p t=>E.same a p&&E.same b t
 |.mx a b,.mx p t=>E.same a p&&E.same b t
 |.ext a i,.ext b j=>E.same a b&&i==j
 |.idx a b k,.idx p t u=>E.same a p&&E.same b t&&k==u
 |.fld a o,.fld b x=>E.same a b&&o==x
 |.flds a o n,.flds b x y=>E.same a b&&o==x&&n==y
 |.ai a i n k g,.ai p A y u I=>E.same a p&&E.same i A&&n==y&&k==u&&g==I
 |.slc a b d k,.slc p t D u=>E.same a p&&E.same b t&&E.same d D&&k==u
 |.slcl a b k,.slcl p t u=>E.same a p&&E.same b t&&k==u
 |.app a b k,.app p t u=>E.same a p&&E.same b t&&k==u
 |.upd a i o b,.upd p A x t=>E.same a p&&E.same i A&&o==x&&E.same b t
 |.aput a i n k b,.aput p A y u t=>E.same a p&&E.same i A&&n==y&&k==u&&E.same b t
 |.mk z n,.mk H y=>V.same z H&&E.same n y
 |.lit l,.lit r=>E.sames l r
 |.ag l,.ag r=>E.sames l r
 |.star a,.star b=>E.same a b
 |.isag a,.isag b=>E.same a b
 |.one a,.one b=>E.same a b
 |.sz a n,.sz b y=>E.same a b&&n==y
 |.fl a,.fl b=>E.same a b
 |.fls a,.fls b=>E.same a b
 |.lk q a k z o,.lk F p u H x=>decide (q=F)&&E.same a p&&E.same k u&&V.same z H&&o==x
 |.mput q a k v,.mput F p u J=>decide (q=F)&&E.same a p&&E.same k u&&E.same v J
 |.mlen a,.mlen b=>E.same a b
 |.mclr a,.mclr b=>E.same a b
 |.pt f l,.pt g r=>f==g&&E.sames l r
 |.ite a b d,.ite p t D=>E.same a p&&E.same b t&&E.same d D
 |_,_=>xh
def E.sames:List E->List E->Bool
 | [],[]=>xy
 |a::l,b::r=>E.same a b&&E.sames l r
 |_,_=>xh
end
mutual
def E.has(x:E):E->Bool
 |.bin o a b=>E.same x (.bin o a b)||E.has x a||E.has x b
 |.eqv o a b=>E.same x (.eqv o a b)||E.has x a||E.has x b
 |.un o a=>E.same x (.un o a)||E.has x a
 |.conv k a=>E.same x (.conv k a)||E.has x a
 |.len a=>E.same x (.len a)||E.has x a
 |.mn a b=>E.same x (.mn a b)||E.has x a||E.has x b
 |.mx a b=>E.same x (.mx a b)||E.has x a||E.has x b
 |.ext a i=>E.same x (.ext a i)||E.has x a
 |.idx a b k=>E.same x (.idx a b k)||E.has x a||E.has x b
 |.fld a o=>E.same x (.fld a o)||E.has x a
 |.flds a o n=>E.same x (.flds a o n)||E.has x a
 |.ai a i n k g=>E.same x (.ai a i n k g)||E.has x a||E.has x i
 |.slc a b d k=>E.same x (.slc a b d k)||E.has x a||E.has x b||E.has x d
 |.slcl a b k=>E.same x (.slcl a b k)||E.has x a||E.has x b
 |.app a b k=>E.same x (.app a b k)||E.has x a||E.has x b
 |.upd a i o b=>E.same x (.upd a i o b)||E.has x a||E.has x i||E.has x b
 |.aput a i n k b=>E.same x (.aput a i n k b)||E.has x a||E.has x i||E.has x b
 |.mk z n=>E.same x (.mk z n)||E.has x n
 |.lit l=>E.same x (.lit l)||E.hasIn x l
 |.ag l=>E.same x (.ag l)||E.hasIn x l
 |.ite a b d=>E.same x (.ite a b d)||E.has x a
 |.star a=>E.same x (.star a)||E.has x a
 |.isag a=>E.same x (.isag a)||E.has x a
 |.one a=>E.same x (.one a)||E.has x a
 |.sz a n=>E.same x (.sz a n)||E.has x a
 |.fl a=>E.same x (.fl a)||E.has x a
 |.fls a=>E.same x (.fls a)||E.has x a
 |.lk q a k z o=>E.same x (.lk q a k z o)||E.has x a||E.has x k
 |.mput q a k v=>E.same x (.mput q a k v)||E.has x a||E.has x k||E.has x v
 |.mlen a=>E.same x (.mlen a)||E.has x a
 |.mclr a=>E.same x (.mclr a)||E.has x a
 |.pt f l=>E.same x (.pt f l)||E.hasIn x l
 |.c v=>E.same x (.c v)
 |.s t=>E.same x (.s t)
 |.m t i=>E.same x (.m t i)
 |.mm t i n=>E.same x (.mm t i n)
def E.hasIn(x:E):List E->Bool
 | []=>xh
 |a::l=>E.has x a||E.hasIn x l
end
def E.sure:E->Bool
 |.c v=>v.one
 |.m .. |.bin .. |.eqv .. |.un .. |.conv .. |.len _|.mn .. |.mx .. |.fld .. |.slc .. |.slcl .. |.app .. |.upd .. |.mk .. |.lit _|.one _|.mput .. |.mlen _|.mclr _=>xy
 |.ite _ a b=>E.sure a&&E.sure b
 |_=>xh
def E.sized(n:Nat):E->Bool
 |.mm _ _ k=>k==n
 |.flds _ _ k=>k==n
 |.ag l=>P l==n&&l.all E.sure
 |.sz _ k=>k==n
 |_=>xh
def yf(e:E):E:=if e.sure then e else .one e
def CB(e:E)(n:Nat):E:=if e.sized n then e else .sz e n
def WL(ag:Bool)(n:Nat)(e:E):E:=if ag then CB e n else yf e
inductive TD where
 |sc|sl (e:TypeId)|st (fs:List (Nat×Nat×Bool×Bool))|ar (n:Nat) (e:TypeId)|pt (e:TypeId)|no
 deriving DecidableEq,Inhabited
def WW:Value->Option V
 |.int k n=>xk (.int k n)
 |.bool b=>xk (.bool b)
 |.string s=>xk (.str s)
 |.slice xw 0 0=>xk (.sl [])
 |.func (.func f) first d=>if first.size=0/\d.size=0 then xk (.fn f)else xw
 |.map xw=>xk (.mp 0 [] [])
 |.pointer xw=>xk (.nul 0)
 |.nilFunc=>xk (.nul 1)
 |_=>xw
def Y4(P:Program)(t:TypeId):Bool:=
 match P.underlying t with
 |some (.struct _)|some (.array _ _)=>xy
 |_=>xh
def zeroCells(P:Program)(t:TypeId):Option (List V):=
 ((P.info? t).bind (·.zero)).bind λz=>z.cells.toList.mapM WW
def XD(P:Program)(t:TypeId):Bool:=
 match P.underlying t with
 |some .bool|some (.int _)|some .string=>xy
 |some (.struct _)|some (.array _ _)=>match zeroCells P t with|some l=>l.all V.flatc|none=>xh
 |some (.tuple d)=>d.all λu=>match P.underlying u with
  |some .bool|some (.int _)|some .string=>xy
  |some (.struct _)|some (.array _ _)=>(match zeroCells P u with|some l=>l.all V.flatc|none=>xh)
  |_=>xh
 |_=>xh
def X2(P:Program)(T:TypeId):Bool:=(P.underlying T).isSome&&(P.info? T).isSome
def Vl(P:Program)(t:TypeId):TD:=
 match P.underlying t with
 |some .bool|some (.int _)|some .string=>.sc
 |some (.slice e)=>.sl e
 |some (.struct d)=>if d.toList.all (λf=>X2 P f.type)then .st (d.toList.map λf=>(f.offset,P.cellsOf f.type,Y4 P f.type,XD P f.type))else .no
 |some (.array n e)=>.ar n e
 |some (.pointer e)=>.pt e
 |_=>.no
def U6(P:Program)(d:TypeId):Bool:=
 match P.info? d with
 |some i=>match i.zero with
  |some z=>z.cells.size==i.size&&decide (0<i.size)&&decide (i.bytes<=32768)
  |none=>xh
 |none=>xh
inductive CK where
 |fz|own (ty:TypeId)|nil|dead
 deriving DecidableEq,Inhabited
inductive OT where
 |fz|own (ty:TypeId)|nil|mem (l:List CK)|clo (f:FuncId) (caps:List Nat)
 deriving DecidableEq,Inhabited
inductive TK where
 |no
 |val (e:E) (sh:List Nat)
 |own (ty:TypeId) (e:E)
 |nil
 |mem (cs:List (CK×E))
 |ags (cs:List (CK×E))
 |ref (p:Nat)
 |refm (p i:Nat)
 |pm (p o:Nat)
 |pc (e:E) (o:Nat) (sh:List Nat)
 |pe (p:Nat) (i:Option Nat) (j:E) (o k:Nat)
 |pa (p o:Nat) (j:E) (n k:Nat)
 |clo (f:FuncId) (caps:List Nat)
 |big (e:E) (sh:List Nat)
 deriving Inhabited
def TK.isNo:TK->Bool
 |.no=>xy
 |_=>xh
abbrev ZB:=List (Nat×Bool)
abbrev Gam:=List (Nat×ZB×TK)
def Gam.at(g:Gam)(t:Nat):ZB×TK:=
 match g with
 | []=>([],.no)
 |(u,x)::r=>if u=t then x else Gam.at r t
def memOf(g:Gam)(p:Nat):Option (List (CK×E)):=
 match g.at p with
 |([],.mem d)=>xk d
 |_=>xw
def ownOf(g:Gam)(p:Nat):Option (TypeId×E):=
 match g.at p with
 |([],.own d e)=>xk (d,e)
 |_=>xw
def Rm(a b:ZB):Bool:=a.all λx=>b.contains x
def look(g:Gam)(C:ZB)(t:Nat):TK:=let x:=g.at t;if Rm x.1 C then x.2 else .no
def Ut(cs:List (CK×E)):Bool:=cs.any λc=>match c.1 with|.own _=>xy|_=>xh
def Wj(cs:List (CK×E)):Bool:=cs.any λc=>c.1==.dead
def ownAt(g:Gam):TK->Option (TypeId×E)
 |.ref p=>ownOf g p
 | .refm p i=>(memOf g p).bind λd=>match d[i]? with
   |some (.own f,e)=>xk (f,e)
   |_=>xw
 |_=>xw
def XV(g:Gam)(k:TK)(t:Nat):Option (E×List Nat):=
 match k with
 |.val e f=>xk (e,f)
 |.own _ e=>xk (e,[t])
 |.nil=>xk (.c (.sl []),[])
 |.ags d=>if Wj d then xw else xk (.ag (d.map (·.2)),if Ut d then [t]else [])
 |.ref p=>(ownAt g (.ref p)).map λx=>(x.2,[p])
 |.refm p i=>(ownAt g (.refm p i)).map λx=>(x.2,[p])
 |_=>xw
def Yk(g:Gam)(C:ZB)(x:Operand):TK:=
 match x with
 |.const (.slice xw 0 0)=>.nil
 |.const v=>match WW v with|some x=>.val (.c x) [] |none=>.no
 |.tmp t=>look g C t
 |.func f=>.val (.c (.fn f)) []
 |_=>.no
def SP:Operand->Nat
 |.tmp t=>t
 |_=>0
def Yv(g:Gam)(C:ZB)(x:Operand):Option (E×List Nat):=
 XV g (Yk g C x) (match x with|.tmp t=>t|_=>0)
def XC(fl:Bool)(b:E×List Nat):E×List Nat:=if b.2.isEmpty then b else if fl then(.fl b.1,[])else b
def Kr(g:Gam)(C:ZB)(fl:Bool):List Operand->Option (List E×List Nat)
 | []=>xk ([],[])
 |x::l=>(Yv g C x).bind λd=>(Kr g C fl l).map λb=>let a:=XC fl d;(a.1::b.1,a.2++b.2)
def JE(g:Gam):List Nat->Option (List E)
 | []=>xk []
 |p::l=>(memOf g p).bind λd=>if Wj d then xw else(JE g l).map λf=>.pt xw (d.map (·.2))::f
def U5(g:Gam)(k:TK)(t:Nat):Option (E×List Nat):=
 match k with
 |.mem j=>if Wj j then xw else xk (.pt xw (j.map (·.2)),[t])
 |.pm p 0=>(memOf g p).bind λj=>if Wj j then xw else xk (.pt xw (j.map (·.2)),[p])
 |.clo f d=>(JE g d).map λl=>(.pt (xk f) l,d)
 |.big e n=>xk (e,n)
 |_=>xw
def qO(g:Gam)(C:ZB)(fl:Bool)(x:Operand):Option (E×List Nat×Bool):=
 match Yv g C x with
 |some a=>xk ((XC fl a).1,(XC fl a).2,xh)
 |none=>(U5 g (Yk g C x) (SP x)).map λa=>(a.1,a.2,xy)
def JB(P:Program)(g:Gam)(C:ZB):List Operand->List TypeId->Option (List E×List Nat×Bool)
 | [],_=>xk ([],[],xh)
 |x::l,d=>(qO g C (match d with|t::_=>XD P t| []=>xh) x).bind λa=>(JB P g C l d.tail).map λb=>(a.1::b.1,a.2.1++b.2.1,a.2.2||b.2.2)
def UL(p:Nat):Nat->List (CK×E)->Bool
 |_,[]=>xy
 |i,(_,.m q j)::r=>p==q&&i==j&&UL p (i+1) r
 |_,_=>xh
def CM:TK->List E
 |.val e _=>[e]
 |_=>[]
structure Ctx where
 P:Program
 ix:Nat->Nat
 own:Nat->Bool
 fresh:FuncId->Bool
 sig:FuncId->Option (List OT)
 tr:List Nat
 n:Nat
 kp:List Nat:=[]
def zD(c:Ctx)(g:Gam)(T:TypeId)(p o:Nat):Option TK:=
 (memOf g p).bind λd=>
  if Y4 c.P T then
   let part:=(d.drop o).take (c.P.cellsOf T)
   if P part=c.P.cellsOf T/\Wj part=xh/\0<c.P.cellsOf T then
    xk (.val (if UL (c.ix p) o part then .mm (c.ix p) o (P part) else .ag (part.map (·.2))) (if Ut part then [p]else []))
   else xw
  else match d[o]? with
   |some (.fz,e)=>xk (.val e [])
   |some (.own _,_)=>xk (.refm p o)
   |some (.nil,_)=>xk .nil
   |_=>xw
def Ag(c:Ctx)(g:Gam)(T:TypeId)(p o:Nat)(j:E)(m k:Nat):Option TK:=
 (memOf g p).bind λd=>
  let part:=(d.drop o).take (m*k)
  if P part=m*k/\c.P.cellsOf T=k/\0<m*k/\Ut part=xh/\Wj part=xh then
   xk (.val (.ai (if UL (c.ix p) o part then .mm (c.ix p) o (P part) else .ag (part.map (·.2))) j m k (Y4 c.P T)) [])
  else xw
def JI(c:Ctx)(T:TypeId)(e:E)(o:Nat):E:=if Y4 c.P T then .flds e o (c.P.cellsOf T)else .fld e o
def RX(p:Nat):Option Nat->TK
 |none=>.ref p
 |some i=>.refm p i
def Ah(c:Ctx)(g:Gam)(T:TypeId)(p:Nat)(i:Option Nat)(j:E)(o k:Nat):Option TK:=
 (ownAt g (RX p i)).bind λx=>if c.P.cellsOf x.1=k then xk (.val (JI c T (.idx x.2 j k) o) [p])else xw
def Gt(c:Ctx)(g:Gam)(T:TypeId)(k:TK)(t:Nat):Option TK:=
 match k with
 |.mem _=>zD c g T t 0
 |.pm p o=>zD c g T p o
 |.pc e o d=>xk (.val (JI c T e o) d)
 |.val e d=>xk (.val (JI c T (.star e) 0) d)
 |.pe p i j o k=>Ah c g T p i j o k
 |.pa p o j m k=>Ag c g T p o j m k
 |_=>xw
def JP(P:Program)(T:TypeId)(f:Nat):Option (Nat×Nat×Bool×Bool):=
 match Vl P T with
 |.st d=>d[f]?
 |_=>xw
abbrev PK:=Option (TK×List E)
def TK.free:TK->Bool
 |.own .. |.mem _|.ags _|.no=>xh
 |_=>xy
def Bz(g:Gam)(C:ZB)(x:Operand):PK:=
 if(Yk g C x).free then xk (Yk g C x,[])else
 match x,Yk g C x with
 |.tmp t,.own _ _=>xk (.ref t,[])
 |.tmp t,.mem _=>xk (.pm t 0,[])
 |.tmp t,.ags d=>(XV g (.ags d) t).map λy=>(.val y.1 y.2,[])
 |_,_=>xw
def BA(g:Gam)(C:ZB)(x:Operand):PK:=
 match Yk g C x with
 |.mem _=>xk (.pm (SP x) 0,[])
 |.pm p o=>xk (.pm p o,[])
 |.val e d=>xk (.val e d,[.star e])
 |_=>xw
def Bl(c:Ctx)(g:Gam)(C:ZB)(ty:TypeId)(x:Operand):PK:=
 match Yk g C x with
 |.val e []=>xk (.val e [],[])
 |.val e (p::j)=>if XD c.P ty then xk (.val (.fl e) [],[.fl e])else xw
 |.nil=>xk (.nil,[])
 |.clo f d=>xk (.clo f d,[])
 |_=>xw
def Bj(c:Ctx)(T:TypeId):PK:=
 (zeroCells c.P T).bind λz=>if z.isEmpty then xw else xk (.mem (z.map λx=>((match x with|.sl _=>CK.nil|_=>.fz),E.c x)),[])
def Bn(c:Ctx)(g:Gam)(C:ZB)(T:TypeId)(x:Operand):PK:=
 match Yk g C x with
 | .val d []=>
   if X2 c.P T then
    let e:=WL (Y4 c.P T) (c.P.cellsOf T) d
    if Y4 c.P T then xk (.mem ((List.range (c.P.cellsOf T)).map λi=>(CK.fz,E.fld e i)),[e])else xk (.mem [(.fz,e)],[e])
   else xw
 |_=>xw
def jl(P:Program)(T:TypeId):Bool:=
 match P.underlying T with
 |some .bool=>xy
 |_=>xh
def Qp(P:Program)(d:TypeId->Nat->Option E)(n o:Nat):List Field->Option E
 | []=>xk (.c (.bool xy))
 |f::l=>if f.name≠ "_" /\f.offset+P.cellsOf f.type<=n then(d f.type (o+f.offset)).bind λx=>(Qp P d n o l).map λy=>.ite x y (.c (.bool xh))else xw
def U7(P:Program)(a b:E):Nat->TypeId->Nat->Option E
 |0,_,_=>xw
 |d+1,T,o=>
  match P.underlying T with
  |some .bool=>if P.cellsOf T=1 then xk (.eqv xh (.fld a o) (.fld b o))else xw
  |some (.int _)=>if P.cellsOf T=1 then xk (.bin .eql (.fld a o) (.fld b o))else xw
  |some (.struct f)=>if f.toList≠[]/\P.cellsOf T≠0/\P.stoodInHeld T=xh then Qp P (U7 P a b d) (P.cellsOf T) o f.toList else xw
  |_=>xw
def Qw(P:Program)(T:TypeId)(a b:E):Option E:=
 if Y4 P T/\P.eqGuardType P.depth T=xh then U7 P (.sz (.isag a) (P.cellsOf T)) (.sz (.isag b) (P.cellsOf T)) 4 T 0 else xw
def Lz(P:Program)(T:TypeId)(op:BinOp)(a b:E):E:=
 if jl P T then match op with
  |.eql=>.eqv xh a b
  |.neq=>.eqv xy a b
  |_=>.bin op a b
 else match op with
  |.eql=>(Qw P T a b).getD (.bin op a b)
  |.neq=>((Qw P T a b).map (.un .not)).getD (.bin op a b)
  |_=>.bin op a b
def Bm(c:Ctx)(g:Gam)(C:ZB)(op:BinOp)(T:TypeId)(x y:Operand):PK:=
 (Yv g C x).bind λa=>(Yv g C y).map λb=>let e:=Lz c.P T op a.1 b.1;(.val e [],[e])
def IS(g:Gam)(C:ZB)(op:UnOp)(x:Operand):PK:=(Yv g C x).map λa=>(.val (.un op a.1) [],[.un op a.1])
def IP(c:Ctx)(g:Gam)(C:ZB)(f d:TypeId)(x:Operand):PK:=
 if(c.P.underlying f).isNone then xw else
 match c.P.underlying d with
 |some (.int k)=>(Yv g C x).map λa=>(.val (.conv k a.1) [],[.conv k a.1])
 |_=>xw
def IQ(c:Ctx)(g:Gam)(C:ZB)(ty:TypeId)(x:Operand)(i:Nat):PK:=
 (Yv g C x).map λa=>let y:=XC (XD c.P ty) (.ext a.1 i,a.2);(.val y.1 y.2,[y.1])
def Bu(c:Ctx)(g:Gam)(C:ZB)(T:TypeId)(a:Operand):PK:=
 if X2 c.P T then(Gt c g T (Yk g C a) (SP a)).map λk=>(k,CM k)else xw
def Bp(c:Ctx)(g:Gam)(C:ZB)(T:TypeId)(a:Operand)(f:Nat):PK:=
 (JP c.P T f).bind λx=>if x.2.1=0 then xw else
  match Yk g C a with
  |.mem _=>xk (.pm (SP a) x.1,[])
  |.pm p q=>xk (.pm p (q+x.1),[])
  |.pc e q d=>xk (.pc e (q+x.1) d,[])
  |.val e d=>xk (.pc (.star e) x.1 d,[.star e])
  |.pe p i j q k=>xk (.pe p i j (q+x.1) k,[])
  |_=>xw
def zt(c:Ctx)(g:Gam)(p:Nat)(i:Option Nat)(d:TypeId)(j:E):PK:=
 (ownAt g (RX p i)).bind λx=>if c.P.cellsOf x.1=c.P.cellsOf d/\X2 c.P d=xy then xk (.pe p i j 0 (c.P.cellsOf d),[.idx x.2 j (c.P.cellsOf d)])else xw
def Bs(c:Ctx)(g:Gam)(C:ZB)(T:TypeId)(x i:Operand):PK:=
 match Vl c.P T with
 | .sl d=>(Yv g C i).bind λj=>
   match Yk g C x with
   |.ref p=>zt c g p xw d j.1
   |.refm p q=>zt c g p (xk q) d j.1
   |.val e f=>if X2 c.P d then xk (.pc (.idx e j.1 (c.P.cellsOf d)) 0 f,[.idx e j.1 (c.P.cellsOf d)])else xw
   |_=>xw
 | .ar n d=>if !X2 c.P d then xw else(Yv g C i).bind λj=>
   match Yk g C x with
   |.mem _=>xk (.pa (SP x) 0 j.1 n (c.P.cellsOf d),[.ai (.c (.agg (List.replicate n (.bool xy)))) j.1 n 1 xh])
   |.pm p o=>xk (.pa p o j.1 n (c.P.cellsOf d),[.ai (.c (.agg (List.replicate n (.bool xy)))) j.1 n 1 xh])
   |.pc e q f=>let k:=E.ai (.flds e q (n*c.P.cellsOf d)) j.1 n (c.P.cellsOf d) xy;xk (.pc k 0 f,[k])
   |_=>xw
 |_=>xw
def Bq(c:Ctx)(g:Gam)(C:ZB)(T:TypeId)(x:Operand)(f:Nat):PK:=
 (JP c.P T f).bind λy=>if y.2.1=0 then xw else(Yv g C x).map λa=>
  let e:=if y.2.2.1 then E.flds (.isag a.1) y.1 y.2.1 else .fld (.isag a.1) y.1
  (.val e a.2,[e])
def Br(c:Ctx)(g:Gam)(C:ZB)(T:TypeId)(x i:Operand):PK:=
 match Vl c.P T with
 | .ar n d=>if !X2 c.P d then xw else(Yv g C x).bind λa=>(Yv g C i).map λb=>
   let e:=E.ai a.1 b.1 n (c.P.cellsOf d) (Y4 c.P d)
   (.val e a.2,[e])
 |_=>xw
def Kq(g:Gam)(C:ZB):Option Operand->Option E
 |some l=>(Yv g C l).map Prod.fst
 |none=>xk (.c (.int .i64 0))
def AV(g:Gam)(C:ZB)(a l:E)(k:Nat):Option Operand->Option E
 |some h=>(Yv g C h).map λy=>.slc a l y.1 k
 |none=>xk (.slcl a l k)
def BE(c:Ctx)(g:Gam)(C:ZB)(T:TypeId)(x:Operand)(j f:Option Operand):PK:=
 match Vl c.P T with
 | .sl d=>if X2 c.P d then(Yv g C x).bind λa=>
   (Kq g C j).bind λl=>(AV g C a.1 l (c.P.cellsOf d) f).map λe=>(.val e a.2,[e])else xw
 |_=>xw
def Bg(g:Gam)(C:ZB)(n:Nat)(ag fl:Bool)(x:Operand):Option (List (CK×E)×List Nat×List Nat):=
 match x,Yk g C x with
 |.tmp t,.own f e=>xk ([(.own f,e)],[],[t])
 |_,.nil=>xk ([(.nil,.c (.sl []))],[],[])
 |_,_=>(Yv g C x).map λd=>let a:=XC fl d;let e:=WL ag n a.1;(if ag then(List.range n).map λj=>(.fz,.fld e j)else [(.fz,e)],a.2,[])
abbrev BC:=List (CK×E)×List Nat×List Nat
def Lj(d:List V)(o n:Nat):BC:=(((d.drop o).take n).map λz=>((match z with|.sl _=>CK.nil|_=>CK.fz),E.c z),[],[])
def II(g:Gam)(C:ZB)(d:List V)(parts:List (Nat×Operand))(f:Nat×Nat×Bool×Bool)(i:Nat):Option BC:=
 match parts.find? (λp=>p.1==i)with
 |some p=>Bg g C f.2.1 f.2.2.1 f.2.2.2 p.2
 |none=>xk (Lj d f.1 f.2.1)
def TR:List Nat->Bool
 | []=>xy
 |x::l=> !l.contains x&&TR l
def JC(g:Gam)(C:ZB)(d:List V)(parts:List (Nat×Operand)):List (Nat×Nat×Bool×Bool)->Nat->Nat->Option BC
 | [],_,o=>if o=(P d) then xk ([],[],[])else xw
 |f::r,i,o=>(II g C d parts f i).bind λa=>if f.1=o/\P a.1=f.2.1/\f.2.1≠0 then(JC g C d parts r (i+1) (o+f.2.1)).map λb=>(a.1++b.1,a.2.1++b.2.1,a.2.2++b.2.2)else xw
def LD(g:Gam)(C:ZB)(d:List V)(parts:List (Nat×Operand))(fs:List (Nat×Nat×Bool×Bool)):Option BC:=
 if TR (parts.map (·.1))&&parts.all (λp=>decide (p.1<P fs))then JC g C d parts fs 0 0 else xw
def OQ(cs:List (CK×E)):Bool:=cs.all λc=>c.1==.fz
def yx(P:Program)(T:TypeId):Option (List (Nat×Nat×Bool×Bool)):=
 match Vl P T with
 |.st f=>xk f
 |.ar n d=>if X2 P d then xk ((List.range n).map λi=>(i*P.cellsOf d,P.cellsOf d,Y4 P d,XD P d))else xw
 |_=>xw
def IO(c:Ctx)(g:Gam)(C:ZB)(T:TypeId)(parts:List (Nat×Operand)):PK:=
 (yx c.P T).bind λd=>(zeroCells c.P T).bind λf=>(LD g C f parts d).bind λb=>
  if b.2.2.isEmpty then
   let e:=E.ag (b.1.map (·.2))
   if b.2.1.isEmpty&& !OQ b.1 then xk (.ags b.1,[e])else xk (.val e b.2.1,[e])
  else xw
def Tk(c:Ctx)(f:Option Nat)(j:TypeId)(e:E)(sh:List Nat):PK:=
 match f with
 |some d=>if c.own d&&sh.isEmpty then xk (.own j e,[e])else xk (.val e sh,[e])
 |none=>xw
def Bo(c:Ctx)(g:Gam)(C:ZB)(f:Option Nat)(T:TypeId)(n:Nat)(parts:List (Nat×Operand)):PK:=
 match Vl c.P T with
 | .sl d=>(Kr g C (XD c.P d) (parts.map (·.2))).bind λj=>
   if parts.map (·.1)=List.range n/\n<256/\c.P.cellsOf d<256/\U6 c.P d=xy/\(Y4 c.P d=xy\/c.P.cellsOf d=1)then Tk c f d (.lit (j.1.map (WL (Y4 c.P d) (c.P.cellsOf d)))) j.2 else xw
 |_=>xw
def C5:Operand->Operand->Bool
 |.tmp t,.tmp u=>t==u
 |.const (.int _ x),.const (.int _ y)=>x==y
 |_,_=>xh
def Bw(c:Ctx)(g:Gam)(C:ZB)(f:Option Nat)(T:TypeId)(n m:Operand):PK:=
 match Vl c.P T with
 | .sl d=>(zeroCells c.P d).bind λz=>(Yv g C n).bind λa=>
   if C5 n m&&U6 c.P d&&(Y4 c.P d||P z==1)then Tk c f d (.mk (if Y4 c.P d then .agg z else z.headD (.agg [])) a.1) []else xw
 |_=>xw
def IR(c:Ctx)(g:Gam)(C:ZB)(T:TypeId)(x:Operand):PK:=
 match c.P.underlying T with
 |some (.slice _)=>(Yv g C x).map λa=>(.val (.len a.1) [],[.len a.1])
 |some (.array n _)=>xk (.val (.c (.int .i64 n)) [],[])
 |some (.map _ _)=>(Yv g C x).map λa=>(.val (.mlen a.1) [],[.mlen a.1])
 |_=>xw
def JF(g:Gam)(C:ZB):List Operand->Option (List Nat)
 | []=>xk []
 |x::l=>match x,Yk g C x with
  |.tmp t,.mem _=>(JF g C l).map (t:: ·)
  |_,_=>xw
def Bx(g:Gam)(C:ZB)(f:Go.Fn)(first d:List Operand):PK:=
 match f,first,d with
 |.func f,[],[]=>xk (.val (.c (.fn f)) [],[])
 |.func f,[],l=>(JF g C l).map λj=>(.clo f j,[])
 |_,_,_=>xw
def zw(P:Program)(t:TypeId):Option KC:=
 match P.underlying t with
 |some .bool=>xk .b
 |some (.int k)=>xk (.i k)
 |some .string=>xk .s
 |_=>xw
def CX(P:Program)(t:TypeId):Option V:=
 ((P.info? t).bind (·.zero)).bind λz=>match z with
   |.agg d=>(d.toList.mapM WW).map .agg
   |v=>WW v
def A3(P:Program)(t:TypeId):Bool:=
 match P.underlying t with
 |some (.map _ _)=>xy
 |_=>xh
def By(c:Ctx)(T:TypeId):PK:=if A3 c.P T then xk (.own T (.c (.mp 0 [] [])),[])else xw
def KF(c:Ctx)(g:Gam)(C:ZB)(T:TypeId)(x k:Operand)(ok:Bool):PK:=
 match c.P.underlying T with
 |some (.map j d)=>(zw c.P j).bind λf=>(CX c.P d).bind λz=>(Yv g C x).bind λa=>(Yv g C k).map λb=>
   let e:=E.lk f a.1 b.1 z ok
   (.val e a.2,[e])
 |_=>xw
def En(P:Program)(T:TypeId):Bool:=
 match P.underlying T with
 |some (.map _ d)=>XD P d
 |_=>xh
def Bv(c:Ctx)(g:Gam)(C:ZB)(T:TypeId)(x k:Operand)(ok:Bool):PK:=
 (KF c g C T x k ok).bind λr=>match r.1 with
 |.val e d=>let y:=XC (!ok&&En c.P T) (e,d);xk (.val y.1 y.2,[y.1])
 |_=>xw
def yA(g:Gam)(C:ZB)(mx:Bool)(x y:Operand):PK:=
 (Yv g C x).bind λa=>(Yv g C y).map λb=>let e:=if mx then E.mx a.1 b.1 else .mn a.1 b.1;(.val e [],[e])
def Sw(fl:Bool)(b:E×List Nat):E×List Nat:=if b.2.isEmpty then b else if fl then(.fls b.1,[])else b
def Bk(c:Ctx)(g:Gam)(C:ZB)(f:Option Nat)(T U:TypeId)(x y:Operand):PK:=
 match Vl c.P T with
 |.sl j=>if T=U/\U6 c.P j=xy then
   match Yk g C x with
   | .nil=>(Yv g C y).bind λb=>
     let y:=Sw (XD c.P j) b
     if(match f with|some d=>c.own d|none=>xh)&& !y.2.isEmpty then xw else Tk c f j (.app (.c (.sl [])) y.1 (c.P.cellsOf j)) y.2
   |_=>xw
  else xw
 |_=>xw
def pk(c:Ctx)(g:Gam)(C:ZB)(o:Oper):PK:=
 match o.op with
 |.move x=>Bz g C x
 |.nilCheck x=>BA g C x
 |.assign x=>Bl c g C o.type x
 |.alloc T=>Bj c T
 |.box T x=>Bn c g C T x
 |.binOp op T x y _=>Bm c g C op T x y
 |.unOp op _ x=>IS g C op x
 |.convert l j x=>IP c g C l j x
 |.extract x i=>IQ c g C o.type x i
 |.load T a=>Bu c g C T a
 |.fieldAddr T a f=>Bp c g C T a f
 |.indexAddr T x i=>Bs c g C T x i
 |.field T x f=>Bq c g C T x f
 |.index T x i=>Br c g C T x i
 |.slice T x q p xw=>BE c g C T x q p
 |.build T parts=>IO c g C T parts.toList
 |.buildSlice T n parts=>Bo c g C o.dst T n parts.toList
 |.makeSlice T n m=>Bw c g C o.dst T n m
 |.makeFunc f first d=>Bx g C f first.toList d.toList
 |.makeMap T xw=>By c T
 |.lookup T x k ok=>Bv c g C T x k ok
 | .call {callee:=.builtin .len,args,argTypes}=>match args.toList,argTypes.toList with
   | [x],[T]=>IR c g C T x
   |_,_=>xw
 | .call {callee:=.builtin .min,args, .. }=>match args.toList with
   | [x,y]=>yA g C xh x y
   |_=>xw
 | .call {callee:=.builtin .max,args, .. }=>match args.toList with
   | [x,y]=>yA g C xy x y
   |_=>xw
 | .call {callee:=.builtin .append,args,argTypes}=>match args.toList,argTypes.toList with
   | [x,y],[T,U]=>Bk c g C o.dst T U x y
   |_,_=>xw
 |_=>xw
inductive FN where
 |id (f:FuncId)
 |e (x:E)
 deriving Inhabited
def FN.es:FN->List E
 |.id _=>[]
 |.e x=>[x]
inductive EF where
 |lt (i:Nat) (C:ZB) (e:E)
 |call (i:Nat) (C:ZB) (f:FN) (fr fl:Bool) (args:List E)
 |callm (i:Nat) (C:ZB) (f:FN) (ks:List OT) (args:List E)
 deriving Inhabited
inductive OV where
 |v (e:E)
 |m (l:List E)
 |no
 deriving Inhabited
structure Reg where
 efs:List EF
 chks:List (ZB×E)
 outs:List (Nat×OV)
 deriving Inhabited
structure OS where
 d:Gam
 ps:List Nat
 rb:List Nat
 fz:List Nat
 efs:List EF
 chks:List (ZB×E)
 deriving Inhabited
def F9:CK->CK
 |.own _=>.fz
 |k=>k
def Rx:TK->TK
 |.own _ e=>.val e []
 |.ags d=>if Wj d then .no else .val (.ag (d.map (·.2))) []
 |.mem d=>.mem (d.map λc=>(F9 c.1,c.2))
 |k=>k
def QJ(fz:List Nat):TK->Bool
 |.pe q _ _ _ _=>fz.contains q
 |_=>xh
def Uo(p:Nat):TK->Bool
 |.val _ d=>d.contains p
 |.ref q=>p==q
 |.refm q _=>p==q
 |.pc _ _ d=>d.contains p
 |.pe q _ _ _ _=>p==q
 |.big _ d=>d.contains p
 |_=>xh
def leads(p:Nat):TK->Bool
 |.pa q _ _ _ _=>p==q
 |.pm q _=>p==q
 |.clo _ d=>d.contains p
 |_=>xh
def Vb(ps rb fz:List Nat)(k:TK):Bool:= !(ps.any λp=>Uo p k)&& !(rb.any λp=>leads p k)&& !QJ fz k
def XX(ps rb fz:List Nat)(g:Gam):Gam:=g.filterMap λx=>if Vb ps rb fz x.2.2 then xw else xk (x.1,[],.no)
def VU(fz:List Nat)(g:Gam):Gam:=fz.map λp=>(p,(g.at p).1,Rx (g.at p).2)
def frz(fz:List Nat)(g:Gam):Gam:=XX [] [] fz g++VU fz g++g
def ZR(g:Gam):List Nat:=g.map (·.1)
structure MS where
 d:Gam
 ps:List Nat
 rb:List Nat
 fz:List Nat
 es:List E
 deriving Inhabited
def SG(g:Gam)(fl:Bool)(x:Operand):Option (E×List Nat):=(Yv g [] x).map λd=>XC fl d
def Jd(cs:List (CK×E))(o:Nat)(new:List (CK×E)):List (CK×E):=cs.take o++new++cs.drop (o+P new)
def Uh(g:Gam)(p o:Nat)(new:List (CK×E)):Option TK:=
 (memOf g p).bind λd=>if o+P new<=(P d) then xk (.mem (Jd d o new))else xw
def Fi(c:Ctx)(g:Gam)(d:Nat):TK->Option (Nat×TypeId×E)
 |.ref p=>if c.tr.contains d&&p !=d then(ownOf g p).map λy=>(p,y.1,y.2)else xw
 |_=>xw
def zK(c:Ctx)(g:Gam)(ty:TypeId)(d:Nat)(x:Operand):Option MS:=
 match x,Yk g [] x with
 |.tmp t,.own ty e=>if t=d\/(g.at t).1≠[]then xw else xk {d:=[(d,[],.own ty e),(t,[],.no)],ps:=[d,t],rb:=[d,t],fz:=[],es:=[]}
 |.tmp t,.mem f=>if t=d\/(g.at t).1≠[]then xw else xk {d:=[(d,[],.mem f),(t,[],.no)],ps:=[d,t],rb:=[d,t],fz:=[],es:=[]}
 | .tmp _,.pm p 0=>if c.tr.contains d&&p !=d then(memOf g p).bind λf=>if Wj f then xw else
   xk {d:=[(d,[],.val (.pt xw (f.map (·.2))) []),(p,[],.no)],ps:=[d,p],rb:=[d,p],fz:=[],es:=[.pt xw (f.map (·.2))]}else xw
 |_,.nil=>xk {d:=[(d,[],.nil)],ps:=[d],rb:=[d],fz:=[],es:=[]}
 |_,k=>match Fi c g d k with
  |some (p,ty,e)=>xk {d:=[(d,[],.own ty e),(p,[],.no)],ps:=[d,p],rb:=[d,p],fz:=[],es:=[]}
  |none=>(SG g (XD c.P ty) x).map λa=> {d:=[(d,[],.val a.1 [])],ps:=[d],rb:=[d],fz:=a.2,es:=[a.1]}
def zN(c:Ctx)(g:Gam)(T:TypeId)(p o:Nat)(x:Operand):Option MS:=
 let n:=c.P.cellsOf T
 if Y4 c.P T then
  match x,Yk g [] x with
  |.tmp t,.ags f=>if P f=n/\t≠p/\(g.at t).1=[]then(Uh g p o f).map λk=> {d:=[(p,[],k),(t,[],.no)],ps:=[p,t],rb:=[t],fz:=[],es:=[]}else xw
  |_,_=>(SG g (XD c.P T) x).bind λa=>let e:=WL xy n a.1;(Uh (frz a.2 g) p o ((List.range n).map λj=>(CK.fz,E.fld e j))).map λk=> {d:=[(p,[],k)],ps:=[p],rb:=[],fz:=a.2,es:=[e]}
 else match x,Yk g [] x with
  |.tmp t,.own l e=>if t≠p/\(g.at t).1=[]then(Uh g p o [(.own l,e)]).map λk=> {d:=[(p,[],k),(t,[],.no)],ps:=[p,t],rb:=[t],fz:=[],es:=[]}else xw
  |_,.nil=>(Uh g p o [(.nil,.c (.sl []))]).map λk=> {d:=[(p,[],k)],ps:=[p],rb:=[],fz:=[],es:=[]}
  |_,_=>(SG g (XD c.P T) x).bind λa=>let e:=yf a.1;(Uh (frz a.2 g) p o [(.fz,e)]).map λk=> {d:=[(p,[],k)],ps:=[p],rb:=[],fz:=a.2,es:=[e]}
def AA(c:Ctx)(g:Gam)(T:TypeId)(p:Nat)(i:Option Nat)(j:E)(o k:Nat)(x:Operand):Option MS:=
 (SG g (XD c.P T) x).bind λa=>let e:=WL (Y4 c.P T) (c.P.cellsOf T) a.1;let g:=frz a.2 g
  if a.2.contains p then xw else
  match i with
  |none=>(ownOf g p).bind λx=>let f:=E.upd x.2 j o e;if c.P.cellsOf x.1=k then xk {d:=[(p,[],.own x.1 f)],ps:=[p],rb:=[],fz:=a.2,es:=[f]}else xw
  |some q=>(memOf g p).bind λn=>match n[q]? with
   |some (.own l,r)=>let f:=E.upd r j o e;if c.P.cellsOf l=k then(Uh g p q [(.own l,f)]).map λk=> {d:=[(p,[],k)],ps:=[p],rb:=[],fz:=a.2,es:=[f]}else xw
   |_=>xw
def Az(c:Ctx)(g:Gam)(T:TypeId)(p o:Nat)(j:E)(n k:Nat)(x:Operand):Option MS:=
 (SG g (XD c.P T) x).bind λf=>let a:=(WL (Y4 c.P T) (c.P.cellsOf T) f.1,f.2);if !a.2.isEmpty||c.P.cellsOf T≠k then xw else
  (memOf g p).bind λq=>
   let part:=(q.drop o).take (n*k)
   if P part=n*k/\part.all (λx=>x.1==.fz)then
    let l:=E.aput (if UL (c.ix p) o part then .mm (c.ix p) o (n*k)else .ag (part.map (·.2))) j n k a.1
    (Uh g p o ((List.range (n*k)).map λi=>(CK.fz,E.fld l i))).map λk=> {d:=[(p,[],k)],ps:=[p],rb:=[],fz:=[],es:=[l]}
   else xw
def Au(c:Ctx)(g:Gam)(d:Nat)(T:TypeId)(parts:List (Nat×Operand)):Option MS:=
 (yx c.P T).bind λj=>(zeroCells c.P T).bind λk=>(LD g [] k parts j).bind λb=>
  let f:=b.2.2
  if f.any (λt=>b.2.1.contains t||t==d|| !(g.at t).1.isEmpty)|| !TR f then xw else
  xk {d:=(d,[],.ags b.1)::f.map λt=>(t,[],.no),ps:=d::f,rb:=d::f,fz:=b.2.1,es:=[.ag (b.1.map (·.2))]}
def GO(c:Ctx)(g:Gam)(T:TypeId)(a x:Operand):Option MS:=
 if !X2 c.P T|| !(Y4 c.P T||c.P.cellsOf T==1)then xw else
 match Yk g [] a with
 |.mem _=>zN c g T (SP a) 0 x
 |.pm p o=>zN c g T p o x
 |.pe p i j o k=>AA c g T p i j o k x
 |.pa p o j n k=>Az c g T p o j n k x
 |_=>xw
def As(c:Ctx)(g0:Gam)(d:Nat)(T U:TypeId)(x y:Operand):Option MS:=
 match Vl c.P T with
 |.sl j=>if T=U/\U6 c.P j=xy then
   (Yv g0 [] y).bind λn=>
    let b:=Sw (XD c.P j) n;let g:=frz b.2 g0
    match x,Yk g [] x with
    |_,.nil=>let f:=E.app (.c (.sl [])) b.1 (c.P.cellsOf j);xk {d:=[(d,[],.own j f)],ps:=[d],rb:=[d],fz:=b.2,es:=[f]}
    |.tmp t,.own l e=>if l=j/\t≠d/\(g.at t).1=[]then let f:=E.app e b.1 (c.P.cellsOf j);xk {d:=[(d,[],.own l f),(t,[],.no)],ps:=[d,t],rb:=[d,t],fz:=b.2,es:=[f]}else xw
    |_,.ref p=>(ownOf g p).bind λx=>if x.1=j/\p≠d then let f:=E.app x.2 b.1 (c.P.cellsOf j);xk {d:=[(d,[],.own x.1 f),(p,[],.no)],ps:=[d,p],rb:=[d,p],fz:=b.2,es:=[f]}else xw
    |_,.refm p i=>(memOf g p).bind λo=>match o[i]? with
     |some (.own l,e)=>if l=j/\p≠d then let f:=E.app e b.1 (c.P.cellsOf j);(Uh g p i [(.dead,.c (.sl []))]).map λk=> {d:=[(d,[],.own l f),(p,[],k)],ps:=[d,p],rb:=[d],fz:=b.2,es:=[f]}else xw
     |_=>xw
    |_,_=>xw
  else xw
 |_=>xw
def At(c:Ctx)(g:Gam)(d:Nat)(T:TypeId)(x:Operand):Option MS:=
 match x,Yk g [] x with
 |.tmp t,.own j e=>if t≠d/\(g.at t).1=[]then xk {d:=[(d,[],.mem [(.own j,e)]),(t,[],.no)],ps:=[d,t],rb:=[d,t],fz:=[],es:=[]}else xw
 |.tmp t,.ags f=>if t≠d/\(g.at t).1=[]then xk {d:=[(d,[],.mem f),(t,[],.no)],ps:=[d,t],rb:=[d,t],fz:=[],es:=[]}else xw
 |_,_=>xw
def An(g:Gam)(x:Operand):Option (Nat×Option Nat×TypeId×E):=
 match x,Yk g [] x with
 |.tmp t,.own d e=>if(g.at t).1=[]then xk (t,xw,d,e)else xw
 |_,.ref p=>(ownOf g p).map λy=>(p,xw,y.1,y.2)
 |_,.refm p i=>(memOf g p).bind λf=>match f[i]? with
  |some (.own d,e)=>xk (p,xk i,d,e)
  |_=>xw
 |_,_=>xw
def M2(g:Gam)(p:Nat)(i:Option Nat)(ty:TypeId)(e:E):Option TK:=
 match i with
 |none=>xk (.own ty e)
 |some i=>Uh g p i [(.own ty,e)]
def zM(g:Gam)(T:TypeId)(m:Operand)(f:E->E):Option MS:=
 (An g m).bind λx=>if x.2.2.1=T then(M2 g x.1 x.2.1 T (f x.2.2.2)).map λk=> {d:=[(x.1,[],k)],ps:=[x.1],rb:=[],fz:=[],es:=[f x.2.2.2]}else xw
def Ay(c:Ctx)(g:Gam)(T:TypeId)(m k v:Operand):Option MS:=
 match c.P.underlying T with
 |some (.map f _)=>(zw c.P f).bind λd=>(Yv g [] k).bind λb=>(Yv g [] v).bind λa=>if !a.2.isEmpty then xw else zM g T m λe=>.mput d e b.1 a.1
 |_=>xw
def Av(c:Ctx)(g:Gam)(T:TypeId)(m:Operand):Option MS:=if A3 c.P T then zM g T m .mclr else xw
def mk(c:Ctx)(g:Gam)(o:Oper):Option MS:=
 match o.op,o.dst with
 |.assign x,xk d=>zK c g o.type d x
 |.move x,xk d=>zK c g o.type d x
 |.store T a x,xw=>GO c g T a x
 |.build T parts,xk d=>Au c g d T parts.toList
 |.box T x,xk d=>At c g d T x
 |.mapUpdate T m k v,xw=>Ay c g T m k v
 | .call {callee:=.builtin .clear,args,argTypes},xw=>match args.toList,argTypes.toList with
   | [x],[T]=>Av c g T x
   |_,_=>xw
 | .call {callee:=.builtin .append,args,argTypes},xk d=>match args.toList,argTypes.toList with
   | [x,y],[T,U]=>As c g d T U x y
   |_,_=>xw
 |_,_=>xw
def LJ(c:Ctx)(ops:Array Oper)(g:Gam)(o:Oper):Option ZB:=
 match o.guard with
 |none=>xk []
 |some (j,d)=>((ops[j]?).bind (·.dst)).bind λt=>match g.at t with
  |(C,.val (.s u) [])=>if u=c.ix t then xk (C++[(t,d)])else xw
  |_=>xw
def ZE(c:Ctx)(C:ZB):ZB:=C.map λx=>(c.ix x.1,x.2)
def BD(c:Ctx)(g:Gam)(C:ZB)(x a b:Operand):PK:=
 match x,Yk g C x with
 | .tmp t,.val (.s u) []=>if u≠c.ix t then xw else(Yv g (C++[(t,xy)]) a).bind λy=>(Yv g (C++[(t,xh)]) b).map λz=>
   let e:=E.ite (.s (c.ix t)) y.1 z.1
   (.val e (y.2++z.2),[e])
 |_,_=>xw
def qW(g:Gam)(C:ZB)(o:Oper):Option (FN×List Nat×List Operand×List TypeId):=
 match o.op with
 |.call {callee:=.value (.func f),args,argTypes}=>xk (.id f,[],args.toList,argTypes.toList)
 | .call {callee:=.value (.tmp t),args,argTypes}=>match Yk g C (.tmp t)with
   |.val e d=>xk (.e e,d,args.toList,argTypes.toList)
   |_=>xw
 |_=>xw
def Z4s(g:Gam)(t:Nat):Bool:=
 match(g.at t).2 with
 |.own .. |.mem _=>xy
 |_=>xh
def Gi:TK->List Nat
 |.ref p|.refm p _|.pm p _|.pe p _ _ _ _|.pa p _ _ _ _=>[p]
 |.val _ f|.pc _ _ f|.big _ f=>f
 |.clo _ d=>d
 |_=>[]
def Z1f(ops:Array Oper)(o:Oper):List Nat:=
 match o.guard with
 |none=>[]
 |some (j,_)=>((ops[j]?).bind (·.dst)).toList
def UE(ops:Array Oper)(g:Gam)(o:Oper):List Nat:=
 let d:=(o.op.operands.toList.filterMap λx=>match x with|.tmp t=>xk t|_=>xw)++Z1f ops o++o.dst.toList;let f:=d++d.flatMap λt=>Gi (g.at t).2
 f++f.flatMap λt=>Gi (g.at t).2
def only(g:Gam)(R:List Nat):Gam:=R.map λt=>(t,g.at t)
def QD(c:Ctx):FN->Bool
 |.id f=>c.fresh f
 |.e _=>xh
def Cs(c:Ctx)(g:Gam)(C:ZB)(ty:TypeId)(d:Nat)(f:FN)(sh:List Nat)(args:List Operand)(ts:List TypeId):Option OS:=
 if !(g.at d).2.isNo then xw else(JB c.P g C args ts).map λaq_=>
  let fl:=(!(aq_.2.1++sh).isEmpty||aq_.2.2)&& !QD c f&&XD c.P ty
  {d:=[(d,C,if aq_.2.2&& !(fl||QD c f)then .big (.s (c.ix d)) (aq_.2.1++sh)else .val (.s (c.ix d)) (if fl||QD c f then []else aq_.2.1++sh))],ps:=[d],rb:=[d],fz:=[],efs:=[.call (c.ix d) (ZE c C) f (QD c f) fl aq_.1],chks:=[]}
inductive AP where
 |op (x:Operand) (ty:TypeId)
 |cap (p:Nat)
 deriving Inhabited
def TM(P:Program):CK->CK->Bool
 |.own a,.own b=>a==b
 |.nil,.own a=>decide (0<P.cellsOf a)
 |.nil,.nil|.nil,.fz|.fz,.fz|.own _,.fz=>xy
 |_,.dead=>xy
 |_,_=>xh
def QN(P:Program):List CK->List CK->Bool
 | [],[]=>xy
 |a::l,b::r=>TM P a b&&QN P l r
 |_,_=>xh
def QY(P:Program):List CK->List CK->Bool
 | [],[]=>xy
 |a::l,b::r=>(a==b||(match a,b with|.nil,.own d=>decide (0<P.cellsOf d)|.nil,.fz=>xy|_,_=>xh))&&QY P l r
 |_,_=>xh
def Cp(g:Gam)(C:ZB):AP->Option Nat
 |.cap p=>xk p
 | .op (.tmp t) _=>match Yk g C (.tmp t)with
   |.mem _=>xk t
   |.pm p 0=>xk p
   |_=>xw
 |_=>xw
def N2(g:Gam)(C:ZB):AP->Option Nat
 | .op (.tmp t) _=>match Yk g C (.tmp t)with
   |.own _ _=>xk t
   |.ref p=>xk p
   |_=>xw
 |_=>xw
def SR(c:Ctx)(g:Gam)(C:ZB)(k:OT)(x:AP):Option (E×Option Nat):=
 match k with
 | .fz=>match x with
   |.op x f=>(Yv g C x).bind λj=>let a:=XC (XD c.P f) j;if a.2.isEmpty then xk (a.1,xw)else xw
   |.cap _=>xw
 | .mem l=>(Cp g C x).bind λp=>(memOf g p).bind λd=>
   if !Wj d&&QY c.P (d.map (·.1)) l then xk (.ag (d.map (·.2)),xk p)else xw
 |.own f=>(N2 g C x).bind λp=>(ownOf g p).bind λy=>if y.1=f then xk (y.2,xk p)else xw
 |_=>xw
def UJ(c:Ctx)(g:Gam)(C:ZB):List OT->List AP->Option (List (E×Option Nat))
 | [],[]=>xk []
 |k::d,x::l=>(SR c g C k x).bind λa=>(UJ c g C d l).map (a:: ·)
 |_,_=>xw
def Ki(i q:Nat):OT->TK
 |.mem l=>.mem (l.zipIdx.map λx=>(x.1,.fld (.ext (.s i) q) x.2))
 |.own d=>.own d (.ext (.s i) q)
 |_=>.no
def XF(i:Nat):Nat->List OT->List (E×Option Nat)->Gam
 |q,k::d,(_,xk p)::l=>(p,[],Ki i q k)::XF i (q+1) d l
 |q,_::d,(_,xw)::l=>XF i q d l
 |_,_,_=>[]
def Ct(c:Ctx)(g all:Gam)(C:ZB)(d:Nat)(fn:FN)(ks:List OT)(f:List AP):Option OS:=
 if !(g.at d).2.isNo then xw else(UJ c g C ks f).bind λaq_=>
  let ps:=aq_.filterMap (·.2)
  if !TR ps||ps.contains d then xw else
  xk {d:=(d,C,.val (if ps.isEmpty then .s (c.ix d)else .ext (.s (c.ix d)) 0) [])::XF (c.ix d) 1 ks aq_++XX (d::ps) [d] [] all,ps:=d::ps,rb:=[d],fz:=[],
        efs:=[.callm (c.ix d) (ZE c C) fn ks (aq_.map (·.1))],chks:=[]}
def V8(args:List Operand)(ts:List TypeId):List AP:=
 match args,ts with
 |x::l,t::r=>.op x t::V8 l r
 |x::l,[]=>.op x 0::V8 l []
 | [],_=>[]
def qV(c:Ctx)(g:Gam)(C:ZB)(o:Oper):Option (FN×List OT×List AP):=
 match o.op with
 |.call {callee:=.value (.func f),args,argTypes}=>(c.sig f).map λj=>(.id f,j,V8 args.toList argTypes.toList)
 | .call {callee:=.value (.tmp t),args,argTypes}=>match Yk g C (.tmp t)with
   |.clo f d=>(c.sig f).map λj=>(.id f,j,V8 args.toList argTypes.toList++d.map .cap)
   |.val e _=>(c.sig (1000000+argTypes.toList.headD 0)).map λj=>(.e e,j,V8 args.toList argTypes.toList)
   |_=>xw
 |_=>xw
def Z0w(g:Gam)(o:Oper):Bool:=match o.dst with|some d=>Z4s g d|none=>xy
def Z0v(g:Gam)(o:Oper):Bool:=match o.dst with|some d=> !(g.at d).2.isNo|none=>xy
def El(o:Oper)(ps:List Nat):Bool:=match o.dst with|some d=>ps.contains d|none=>xy
def Ek(c:Ctx)(o:Oper):Bool:=match o.dst with|some d=> !decide (d<c.n)|none=>xh
def Z3y(c:Ctx)(g:Gam)(C:ZB)(o:Oper)(x:Operand):Bool:=match o.dst,Yk g C x with
 |some d,.own .. =>c.kp.contains d
 |_,_=>xh
def BB(c:Ctx)(g:Gam)(C:ZB)(o:Oper):PK:=
 match o.op with
 |.pick x a b=>BD c g C x a b
 |.assign _=>if Z0w g o then xw else pk c g C o
 |.move x=>if Z0v g o then xw else if Z3y c g C o x then(Yv g C x).map λb=>(.val b.1 b.2,[b.1])else pk c g C o
 |_=>pk c g C o
def Cw(c:Ctx)(f:List Nat)(g:Gam)(C:ZB)(d:Nat)(k:TK)(es:List E):Option OS:=
 if f.contains d then
  match k with
  |.val e []=>if !(g.at d).2.isNo then xw else xk {d:=[(d,C,.val (.s (c.ix d)) [])],ps:=[d],rb:=[d],fz:=[],efs:=[.lt (c.ix d) (ZE c C) e],chks:=es.map λe=>(ZE c C,e)}
  |_=>xw
 else if Uo d k||leads d k then xw else xk {d:=[(d,C,k)],ps:=[d],rb:=[d],fz:=[],efs:=[],chks:=es.map λe=>(ZE c C,e)}
def Cv(g all:Gam)(m:MS):OS:= {d:=m.d++XX m.ps m.rb m.fz all++VU m.fz g,ps:=m.ps,rb:=m.rb,fz:=m.fz,efs:=[],chks:=m.es.map λe=>([],e)}
def Q9(c:Ctx)(j:List Nat)(ops:Array Oper)(all:Gam)(o:Oper):Option OS:=
 let g:=only all (UE ops all o)
 if Ek c o then xw else
 (LJ c ops g o).bind λC=>
 match qV c g C o,o.dst with
 |some (fn,q,l),xk d=>Ct c g all C d fn q l
 |some _,xw=>xw
 |none,_=>
 match qW g C o,o.dst with
 |some (f,r,args,t),xk d=>Cs c g C o.type d f r args t
 |some _,xw=>xw
 |none,_=>match BB c g C o,o.dst with
  |some (k,n),xk d=>Cw c j g C d k n
  |_,_=>if o.guard.isSome then xw else(mk c g o).bind λm=>if m.ps.all (λp=>(ZR m.d).contains p)&&m.rb.all (λp=>m.ps.contains p)&&El o m.ps then xk (Cv g all m)else xw
def Z4o(ops:Array Oper):List Nat:=
 ops.toList.filterMap λo=>match o.op,o.dst with
  |.assign (.tmp t),xk _=>xk t
  |.store _ _ (.tmp t),_=>xk t
  |.call {callee:=.builtin .append,args, .. },_=>match args.toList with|.tmp t::_=>xk t|_=>xw
  |_,_=>xw
def Hx(ops:Array Oper):List Nat:=
 let l:=Z4o ops
 l++ops.toList.flatMap λo=>match o.op,o.dst with
  |.build _ parts,xk d=>if l.contains d then parts.toList.filterMap λx=>match x.2 with|.tmp t=>xk t|_=>xw else []
  |_,_=>[]
def zA(ops:Array Oper):List Nat:=
 ops.toList.filterMap λo=>match o.guard with
  |some (j,_)=>(ops[j]?).bind (·.dst)
  |none=>xw
structure XS where
 os:OS
 R:List Nat
 T:List Nat
 deriving Inhabited
def Dl(xs:List XS)(e:Nat):List Nat:=match xs[e]? with|some x=>x.T|none=>[]
def Sv(o:Oper):List Nat:=(o.after.toList.filter λe=>Region.binds .any e).map (·.on)
def Jn(d:Bool)(xs:List XS)(o:Oper):List Nat:=
 if d then(List.range (P xs)).filter λj=>(Sv o).any λe=>e==j||(Dl xs e).contains j
 else List.range (P xs)
def Jh(c:Ctx)(f:Bool)(j:List Nat)(ops:Array Oper):List Oper->Gam->List XS->Option (Gam×List XS)
 | [],g,k=>xk (g,k)
 |o::l,g,k=>if f&& !(Sv o).all (λe=>decide (e<P k))then xw else(Q9 c j ops g o).bind λos=>Jh c f j ops l (os.d++g) (k++[{os,R:=UE ops g o,T:=Jn f k o}])
def KO(f:OS)(g:Gam):Bool:=g.all λx=>(ZR f.d).contains x.1||Vb f.ps f.rb f.fz x.2.2
def qK(a b:List Nat):Bool:=a.all λt=> !b.contains t
def yc(x:XS)(i:Nat)(y:XS)(j:Nat):Bool:=
 j==i||((y.T.contains i||KO x.os y.os.d)&&(x.T.contains j||y.T.contains i||(qK (ZR y.os.d) (ZR x.os.d)&&qK (ZR y.os.d) x.R)))
def AR(g0:Gam)(xs:List XS):Bool:=
 xs.zipIdx.all λx=>(x.1.os.ps.all λp=>(ZR x.1.os.d).contains p)&&(x.1.os.fz.all λp=>(ZR x.1.os.d).contains p)&&KO x.1.os g0&&
  (x.1.T.all λj=>j<x.2)&&xs.zipIdx.all λy=>yc x.1 x.2 y.1 y.2
abbrev SS:=List (Nat×OT)
def Qv(c:Ctx)(t:Nat):OT->TK
 |.fz=>.val (.s (c.ix t)) []
 |.own j=>.own j (.s (c.ix t))
 |.nil=>.nil
 |.mem l=>.mem (l.zipIdx.map λx=>(x.1,.m (c.ix t) x.2))
 |.clo f d=>.clo f d
def Yp(c:Ctx)(S:SS):Gam:=S.map λx=>(x.1,[],Qv c x.1 x.2)
def WE:TK->Option OT
 |.val _ _=>xk .fz
 |.own k _=>xk (.own k)
 |.nil=>xk .nil
 |.mem j=>xk (.mem (j.map (·.1)))
 |.clo f d=>xk (.clo f d)
 |_=>xw
def Ve(keep:List Nat)(g:Gam):List Nat:=keep.flatMap λt=>match g.at t with
 |([],.val _ d)=>d
 |_=>[]
def VA:TK->OV
 |.val e _=>.v e
 |.own _ e=>.v e
 |.nil=>.v (.c (.sl []))
 |.mem d=>.m (d.map (·.2))
 |_=>.no
def Sb(i:Nat):OV->Bool
 |.v (.s j)=>i==j
 |.m l=>(l.zipIdx.all λx=>match x.1 with|.m j k=>i==j&&k==x.2|_=>xh)
 |_=>xh
def SQ(keep:List Nat)(g:Gam):SS:=keep.filterMap λt=>if(g.at t).1.isEmpty then(WE (g.at t).2).map λk=>(t,k)else xw
def SS.at(S:SS)(t:Nat):Option OT:=
 match S with
 | []=>xw
 |(u,x)::r=>if u=t then xk x else SS.at r t
def Tj(c:Ctx)(S:SS)(g:Gam)(t:Nat):Option (Nat×OV):=
 let o:=if(g.at t).1.isEmpty then VA (g.at t).2 else .no
 if Sb (c.ix t) o then xw
 else match S.at t,(g.at t).2 with
  |some .nil,.nil=>xw
  |none,.no=>xw
  |_,_=>xk (c.ix t,o)
def Ht(c:Ctx)(S:SS)(keep:List Nat)(g:Gam):List (Nat×OV):=keep.filterMap (Tj c S g)
def Em:EF->List (ZB×E)
 |.lt _ C e=>[(C,e)]
 |.call _ C f _ _ aq_=>(f.es++aq_).map λe=>(C,e)
 |.callm _ C f _ aq_=>(f.es++aq_).map λe=>(C,e)
def yi:OV->List E
 |.v e=>[e]
 |.m l=>l
 |.no=>[]
def Ei(l:List (ZB×E))(x:ZB×E):Bool:=l.any λy=>Rm y.1 x.1&&E.has x.2 y.2
def yB:List (ZB×E)->List (ZB×E)->List (ZB×E)
 |_,[]=>[]
 |l,x::r=>let q:=yB l r;if Ei (l++q) x then q else x::q
def T4:EF->Nat
 |.lt i _ _=>i
 |.call i _ _ _ _ _=>i
 |.callm i _ _ _ _=>i
mutual
def E.asks(t:Nat):E->Bool
 |.s u=>t==u
 |.m u _=>t==u
 |.mm u _ _=>t==u
 |.bin _ a b|.eqv _ a b|.mn a b|.mx a b=>E.asks t a||E.asks t b
 |.idx a b _|.ai a b _ _ _|.slcl a b _|.app a b _=>E.asks t a||E.asks t b
 |.lk _ a b _ _=>E.asks t a||E.asks t b
 |.mput _ a b d=>E.asks t a||E.asks t b||E.asks t d
 |.mlen a|.mclr a=>E.asks t a
 |.un _ a|.conv _ a|.len a|.ext a _|.fld a _|.flds a _ _|.mk _ a|.star a|.isag a|.one a|.sz a _|.fl a|.fls a=>E.asks t a
 |.slc a b d _|.upd a b _ d|.aput a b _ _ d|.ite a b d=>E.asks t a||E.asks t b||E.asks t d
 |.lit l|.ag l|.pt _ l=>E.asksIn t l
 |.c _=>xh
def E.asksIn(t:Nat):List E->Bool
 | []=>xh
 |a::l=>E.asks t a||E.asksIn t l
end
def XB(t:Nat):EF->Bool
 |.lt _ C e=>C.any (λx=>x.1==t)||E.asks t e
 |.call _ C f _ _ aq_=>C.any (λx=>x.1==t)||E.asksIn t (f.es++aq_)
 |.callm _ C f _ aq_=>C.any (λx=>x.1==t)||E.asksIn t (f.es++aq_)
def y5:List EF->Bool
 | []=>xy
 |x::l=> !XB (T4 x) x&&l.all (λy=>T4 y !=T4 x&& !XB (T4 y) x)&&y5 l
def Z0Q(fix:List Nat)(ops:Array Oper):Bool:=ops.toList.all λo=>match o.dst with
 |some d=> !fix.contains d
 |none=>xy
def jf(P:Program)(ix:Nat->Nat)(fresh:FuncId->Bool)(sig:FuncId->Option (List OT))(tr fix:List Nat)(n:Nat)(keep:List Nat)(f:Bool)(ops:Array Oper)(S:SS):Option (Reg×SS):=
 let j:=Hx ops;let c:Ctx:= {P,ix,own:=λt=>j.contains t,fresh,sig,tr,n,kp:=keep};let g0:=Yp c S
 (Jh c f (zA ops) ops ops.toList g0 []).bind λr=>
  let k:=Ve keep r.1;let g:=frz k r.1;let outs:=Ht c S keep g;let efs:=r.2.flatMap λx=>x.os.efs;let chks:=r.2.flatMap λx=>x.os.chks;let d:=(efs.flatMap Em)++(outs.flatMap λx=>(yi x.2).map λe=>(([]:ZB),e))
  if Z0Q fix ops&&AR g0 r.2&&y5 efs&&(efs.all λx=>S.all λy=>c.ix y.1 !=T4 x)then
   xk ({efs,chks:=yB d chks,outs},SQ keep g)
  else xw
end Vm
namespace Vm
open Go
inductive Stm where
 |reg (r:Reg)
 |skip
 |seq (a b:Stm)
 |cond (c:E) (a b:Stm)
 |block (id:Nat) (a:Stm)
 |loop (keep:List Nat) (a:Stm)
 |exit (id:Nat)
 |ret
 deriving Inhabited
def BR(ops:Array Oper):List Oper->List Nat->List Nat
 | [],_=>[]
 |o::l,seen=>
  (o.op.operands.toList.filterMap λx=>match x with|.tmp t=>if seen.contains t then xw else xk t|_=>xw)++
  BR ops l (match o.dst with|some d=>d::seen|none=>seen)
def Hw(ops:Array Oper):List Nat:=
 ops.toList.filterMap λo=>match o.dst,o.op with
  |some d,.assign _|some d,.alloc _|some d,.box _ _=>xk d
  |_,_=>xw
def Gl(ops:Array Oper):List Nat:=
 ops.toList.filterMap λo=>match o.dst,o.op with
  |some d,.call {callee:=.value _, .. }=>xk d
  |some d,_=>if(zA ops).contains d then xk d else xw
  |none,_=>xw
def Uv(f:Array Oper->List Nat):Code->List Nat
 |.region _ d _=>f d
 |.seq a b=>Uv f a++Uv f b
 |.cond (.tmp t) a b=>t::Uv f a++Uv f b
 |.cond _ a b=>Uv f a++Uv f b
 |.block _ a|.loop a|.scope a=>Uv f a
 |_=>[]
def JL:List Nat->List Nat->List Nat
 |d,[]=>d.reverse
 |d,t::l=>JL (if d.contains t then d else t::d) l
def pos:List Nat->Nat->Nat
 | [],_=>0
 |u::l,t=>if u=t then 0 else pos l t+1
def Te(P:Program):OT->OT->Bool
 |.own a,.own b=>a==b
 |.nil,.own a=>decide (0<P.cellsOf a)
 |.nil,.nil|.nil,.fz|.fz,.fz|.own _,.fz=>xy
 |.mem a,.mem b=>QN P a b
 |.clo f a,.clo g b=>f==g&&a==b
 |_,_=>xh
def TN(P:Program)(S R:SS):Bool:=R.all λx=>match S.at x.1 with|some k=>Te P k x.2|none=>xh
def RH(P:Program)(S:Option SS)(R:Option SS):Bool:=match S,R with|none,_=>xy|some S,xk R=>TN P S R|some _,xw=>xh
def Z3c(P:Program):CK->CK->CK
 |a,b=>if TM P a b then b else if TM P b a then a else match a,b with|.dead,_|_,.dead=>.dead|_,_=>.fz
def Z3d(P:Program):OT->OT->Option OT
 |.mem a,.mem b=>if xq a=(xq b) then xk (.mem ((a.zip b).map λx=>Z3c P x.1 x.2))else xw
 |.mem _,_|_,.mem _=>xw
 |a,b=>if Te P a b then xk b else if Te P b a then xk a else xk .fz
def GJ(P:Program)(S R:SS):SS:=S.filterMap λx=>(R.at x.1).bind λk=>(Z3d P x.2 k).map λk=>(x.1,k)
def zI(P:Program):Option SS->Option SS->Option SS
 |none,b=>b
 |a,xw=>a
 |some a,xk b=>xk (GJ P a b)
def Ar(P:Program):List SS->Option SS
 | []=>xw
 |S::l=>zI P (xk S) (Ar P l)
structure Flow where
 n:Option SS
 x:List (Nat×SS)
 r:List SS
structure FC where
 P:Program
 ix:Nat->Nat
 fresh:FuncId->Bool
 sig:FuncId->Option (List OT)
 tr:List Nat
 fix:List Nat
 n:Nat
 keep:List Nat
def Z12(S:SS):SS:=S.map λx=>(x.1,match x.2 with|.mem l=>.mem (l.map λk=>match k with|.own _=>.fz|k=>k)|k=>k)
def jI(P:Program)(f:SS->Option (Stm×Flow)):Nat->SS->Option SS
 |0,S=>xk S
 |k+1,S=>match f S with
  |none=>jI P f k (Z12 S)
  |some x=>match x.2.n with
  |none=>xk S
  |some R=>if TN P R S then xk S else jI P f k (GJ P S R)
def comp(c:FC):Code->SS->Option (Stm×Flow)
 |.skip,S|.label _,S=>xk (.skip,⟨xk S,[],[]⟩)
 |.region _ f d,S=>(jf c.P c.ix c.fresh c.sig c.tr c.fix c.n c.keep d f S).map λx=>(.reg x.1,⟨xk x.2,[],[]⟩)
 | .seq a b,S=>(comp c a S).bind λx=>match x.2.n with
   |none=>xk x
   |some R=>(comp c b R).map λy=>(.seq x.1 y.1,⟨y.2.n,x.2.x++y.2.x,x.2.r++y.2.r⟩)
 | .cond (.tmp t) a b,S=>if S.at t=xk .fz then(comp c a S).bind λx=>(comp c b S).bind λy=>
   let M:=zI c.P x.2.n y.2.n
   if RH c.P x.2.n M&&RH c.P y.2.n M then xk (.cond (.s (c.ix t)) x.1 y.1,⟨M,x.2.x++y.2.x,x.2.r++y.2.r⟩)else xw else xw
 | .block id a,S=>(comp c a S).bind λx=>
   let M:=zI c.P x.2.n (Ar c.P ((x.2.x.filter λy=>y.1==id).map (·.2)))
   if RH c.P x.2.n M&&x.2.x.all (λy=>y.1 !=id||RH c.P (xk y.2) M)then
    xk (.block id x.1,⟨M,x.2.x.filter λy=>y.1 !=id,x.2.r⟩)else xw
 | .loop a,S=>(jI c.P (comp c a) 4 S).bind λH=>(comp c a H).bind λx=>
   if TN c.P S H&&RH c.P x.2.n (xk H)then xk (.loop (H.map λy=>c.ix y.1) x.1,⟨xw,x.2.x,x.2.r⟩)else xw
 |.exit id,S=>xk (.exit id,⟨xw,[(id,S)],[]⟩)
 |.scope a,S=>comp c a S
 |.ret,S=>xk (.ret,⟨xw,[],[S]⟩)
 |_,_=>xw
inductive RK where
 |v|ag (n:Nat)|one
 deriving Inhabited
structure Fn where
 n:Nat
 keep:List Nat
 body:Stm
 res:List (Nat×RK)
 deriving Inhabited
def KV(P:Program)(d:Nat->Nat)(f:Func):List (Nat×RK):=
 f.results.toList.map λr=>match r with|.tmp t=>(d t,.v)|.cell a t=>(d a,if Y4 P t then .ag (P.cellsOf t)else .one)
def SO(P:Program)(S:SS):ResultVar->Bool
 |.tmp t=>match S.at t with|some (.mem _)|some (.clo _ _)|none=>xh|_=>xy
 |.cell t d=>match S.at t with|some (.mem l)=>X2 P d&&l.all (λk=>k !=.dead)&&(if Y4 P d then xq l==P.cellsOf d else decide (0<xq l))|_=>xh
def TW(ks:List OT):SS:=ks.zipIdx.filterMap λx=>match x.1 with
 |.fz=>xw
 |k=>xk (x.2,k)
def SZ:ResultVar->Nat
 |.tmp t=>t
 |.cell t _=>t
def SM(P:Program)(f:Func)(fin:SS)(S:SS):Bool:=f.results.toList.all (SO P S)&&TN P S fin
def Ml(f:Func)(fin:SS):Bool:=f.results.toList.all λr=>(fin.at (SZ r)).isNone
def Z44(P:Program)(f:Func)(fin:SS):Option SS->Bool
 |some R=>SM P f fin R
 |none=>xy
def He(P:Program)(d:Nat->Nat)(f:Func)(ks:List OT)(fin:SS)(fl:Flow):Bool:=
 Z44 P f fin fl.n&&fl.r.all (SM P f fin)&&fl.x.isEmpty&&(List.range (xq ks)).all (λt=>d t==t)
def Rs(ks:List OT):List Nat:=(TW ks).map (·.1)
def Le(f:Func):List Nat:=f.results.toList.filterMap λr=>match r with
 |.tmp t=>xk t
 |_=>xw
def ZK(P:Program)(fresh:FuncId->Bool)(sig:FuncId->Option (List OT))(ks:List OT)(fin:SS)(f:Func):Option Fn:=
 f.body.bind λcode=>
  let keep:=JL [] ((List.range (xq ks))++Uv (λd=>Hw d++BR d d.toList []) code);let ix:=pos (keep++JL [] ((Uv Gl code).filter λt=> !keep.contains t));let S:=ks.zipIdx.map λx=>(x.2,x.1)
  (comp {P,ix,fresh,sig,tr:=Le f,fix:=Rs ks,n:=f.ntmps,keep} code S).bind λx=>
   if He P ix f ks fin x.2 then
    xk {n:=xq keep,keep,body:=x.1,res:=KV P ix f}
   else xw
end Vm
namespace Vm
open Go
structure GH where
 F:Nat->Prop
 bl:Nat->Nat->Option Nat
 K:Nat->Prop
structure Ok (B:Nat) (G:Nat->Prop) (w:World) (h:GH):Prop where
 base:B<=U (R w)
 f_lt:∀b,h.F b->b<U (R w)
 f_or:∀b,h.F b->G b\/B<=b
 g_F:∀b,G b->h.F b
 b_lt:∀t i b,h.bl t i=xk b->B<=b/\b<U (R w)/\¬h.F b
 inj:∀t i u j b,h.bl t i=xk b->h.bl u j=xk b->t=u/\i=j
 k_lt:∀b,h.K b->b<U (R w)
 k_bl:∀t i b,h.bl t i=xk b->¬h.K b
 k_F:∀b,h.F b->G b\/¬h.K b
def GH.exb(h:GH)(big:Bool)(sh:List Nat)(b:Nat):Prop:=h.F b\/∃p∈sh,∃i,(big=xy\/0<i)/\h.bl p i=xk b
def GH.ext(h:GH)(sh:List Nat)(b:Nat):Prop:=h.F b\/∃p∈sh,∃i,h.bl p (i+1)=xk b
def GH.ext_F{h:GH}{sh b}(d:h.F b):h.ext sh b:=.inl d
def GH.ext_nil{h:GH}{b}(d:h.ext [] b):h.F b:=by
 obtain d|⟨p,f,_⟩:=d;exact d;grind
def GH.ext_left{h:GH}{sh r b}(d:h.ext sh b):h.ext (sh++r) b:=by
 obtain d|⟨p,f,x⟩:=d;exact .inl d;exact .inr ⟨p,by simp[f],x⟩
def GH.ext_right{h:GH}{sh r b}(d:h.ext r b):h.ext (sh++r) b:=by
 obtain d|⟨p,f,x⟩:=d;exact .inl d;exact .inr ⟨p,by simp[f],x⟩
def OF(P:Program)(B:Nat)(w:World)(h:GH)(o:Option Nat)(ty:TypeId)(x:V)(v:Value):Prop:=
 ∃l d,x=.sl l/\0<P.cellsOf ty/\(∀y∈l,y.fits (P.cellsOf ty))/\w.ownsRow B ty (P.cellsOf ty) v (xq l) d/\v.ownBlock=o/\
  ∀(i:Nat) c,(flat l)[i]?=xk c->∃u,d[i]?=xk u/\Rd w h.F c u
def OG(B:Nat)(w:World)(h:GH)(o:Option Nat)(x:V)(v:Value):Prop:=
 ∃id j k b d f,x=.mp id j k/\v=.map (xk b)/\o=xk b/\B<=b/\(id=0\/id=b+1)/\w.heap[b]?=xk (.map d f)/\P j=d.size/\P k=d.size/\
  (∀i c,j[i]?=xk c->Rd w h.F c (d.getD i default).key)/\∀i c,k[i]?=xk c->Rd w h.F c (d.getD i default).val
def OwnV(P:Program)(B:Nat)(w:World)(h:GH)(o:Option Nat)(ty:TypeId)(x:V)(v:Value):Prop:=OF P B w h o ty x v\/OG B w h o x v
def SU:Option Nat->Nat
 |none=>1
 |some i=>i+1
def RelC(P:Program)(B:Nat)(s:St)(w:World)(h:GH)(o:Option Nat)(k:CK)(e:E)(v:Value):Prop:=
 match k with
 |.fz=>∃x,eval s e=xk x/\x.one=xy/\Rd w h.F x v
 |.own d=>∃x,eval s e=xk x/\OwnV P B w h o d x v
 |.nil=>v=.slice xw 0 0/\eval s e=xk (.sl [])
 |.dead=>v.oneCell'=xy
def RelCs(P:Program)(B:Nat)(s:St)(w:World)(h:GH)(t:Nat)(cs:List (CK×E))(vs:Array Value):Prop:=
 vs.size=xq cs/\∀i c,cs[i]?=xk c->RelC P B s w h (h.bl t (i+1)) c.1 c.2 (vs.getD i undef)
def RelK(P:Program)(B:Nat)(s:St)(w:World)(h:GH)(y:Nat->Option Value)(t:Nat)(v:Value):TK->Prop
 |.no=>True
 |.val e l=>∃x,eval s e=xk x/\Rd w (h.ext l) x v
 |.own z e=>∃x,eval s e=xk x/\OwnV P B w h (h.bl t 1) z x v
 |.nil=>v=.slice xw 0 0
 |.mem r=>∃b vs T,h.bl t 0=xk b/\v=.pointer (xk ⟨b,0,xw⟩)/\w.heap[b]?=xk (.cells vs T (0,0))/\RelCs P B s w h t r vs
 |.ags r=>∃vs,v=.agg vs/\RelCs P B s w h t r vs
 |.ref p=>y p=xk v
 |.refm p i=>∃b,h.bl p 0=xk b/\w.cell? ⟨b,i,xw⟩=xk v
 |.pm p o=>∃b,h.bl p 0=xk b/\v=.pointer (xk ⟨b,o,xw⟩)
 | .pc e o l=>∃x b q,∃vs:Nat->Value,eval s e=xk x/\v=.pointer (xk ⟨b,q+o,xw⟩)/\h.ext l b/\(∀c∈x.pc,c.one=xy)/\
   (∀i,i<xq x.pc->w.cell? ⟨b,q+i,xw⟩=xk (vs i))/\∀i c,x.pc[i]?=xk c->Rd w (h.ext l) c (vs i)
 |.pe p i j o k=>∃n q,h.bl p (SU i)=xk n/\(∃u,eval s j=xk (.int u (q:Nat)))/\v=.pointer (xk ⟨n,q*k+o,xw⟩)
 |.pa p o j n k=>∃b q,h.bl p 0=xk b/\(∃u,eval s j=xk (.int u (q:Nat)))/\q<n/\v=.pointer (xk ⟨b,o+q*k,xw⟩)
 |.big e l=>∃x,eval s e=xk x/\Rd w (h.exb xy l) x v
 |.clo f d=>∃vs,v=.func (.func f) #[] vs/\vs.size=xq d/\∀(i p:Nat),d[i]?=xk p->∃b,h.bl p 0=xk b/\vs[i]?=xk (.pointer (xk ⟨b,0,xw⟩))
def holds(s:St)(C:ZB):Prop:=∀x∈C,get s x.1=.v (.bool x.2)
theorem Vv s:holds s []:=λ_ h=>Zdj
def jJ{s C D}:holds s (C++D)↔holds s C/\holds s D:=by
 unfold holds;constructor;simp_all;grind
def Z1m{s c C D}(h:Rm C D=xy)(f:holds s (ZE c D)):holds s (ZE c C):=by
 intro x d;simp only[ZE,ZdZ]at d;obtain⟨y,j,rfl⟩:=d;refine f (c.ix y.1,y.2) ?_;simp only[Rm,ZdT]at h;simp only[ZE,ZdZ];grind
structure RelG (c:Ctx) (B:Nat) (G:Nat->Prop) (s:St) (a:Act) (w:World) (h:GH) (g:Gam):Prop where
 ok:Ok B G w h
 at_:∀t,holds s (ZE c (g.at t).1)->(g.at t).2.isNo=xh->∃v,a.tmps[t]?=xk v/\RelK c.P B s w h (λp=>a.tmps[p]?) t v (g.at t).2
 skip:∀t,¬holds s (ZE c (g.at t).1)->a.tmps.getD t undef=undef
theorem Act.eval_tmp(a:Act)(t:Nat)v(h:a.tmps[t]?=xk v):a.eval (.tmp t)=v:=by
 simp_all[Act.eval,ZdM,Zeb]
def GB{g C t k}(h:look g C t=k)(d:k.isNo=xh):(g.at t).2=k/\Rm (g.at t).1 C=xy:=by
 grind [look,TK.isNo]
section
variable {c:Ctx}{B:Nat}{G:Nat->Prop}{s:St}{a:Act}{w:World}{h:GH}{g:Gam}{C:ZB}
theorem RelG.look(o:RelG c B G s a w h g)(j:holds s (ZE c C)){t k}(n:look g C t=k)(l:k.isNo=xh):
  ∃v,a.tmps[t]?=xk v/\RelK c.P B s w h (λp=>a.tmps[p]?) t v k/\(g.at t).2=k:=by
 have⟨q,f⟩:=GB n l;have⟨v,r,d⟩:=o.at_ t (Z1m f j) ZcL;simp_all
theorem LG{v x}(d:WW v=xk x)w G:Rd w G x v:=by
 unfold WW at d;split at d<;>first
  |(simp at d;subst d;first|exact .int _ _|exact .bool _|exact .str _|exact .nil _ _ (ZeS _)|exact .nomp|exact .nul0|exact .nul1)
  | (split at d<;>first
    | (rename_i f
       simp at d;subst d;rw[ZeP f.1,ZeP f.2];exact .fn _)
    |simp at d)
  |simp at d
theorem jb{v x}(d:WW v=xk x):x.one=xy:=by
 unfold WW at d;split at d<;>first
  |(simp at d;subst d;rfl)
  |(split at d<;>first|(simp at d;subst d;rfl)|simp at d)
  |simp at d
def OwnV.rd{P o ty x v}(W:OwnV P B w h o ty x v){G'}(r:∀b,h.F b->G' b)(O:∀b,o=xk b->G' b):Rd w G' x v:=by
 obtain⟨l,Q,rfl,Y,k,p,M,A⟩|⟨id,X,Q,b,R,q,rfl,rfl,rfl,_,hid,t,y,K,z,L⟩:=W;case inr=>exact .mp id X Q b q R hid (O b rfl) t y K (λi c f=>(z i c f).mono r) λi c f=>(L i c f).mono r
 have⟨N,S⟩:=p;obtain⟨rfl,T⟩|⟨b,cap,d,rfl,_,t,n,j,D,H⟩:=S;have:=ZeD T;subst this;exact .nil _ _ (ZeS _);simp only[Value.ownBlock]at M;refine .sl l b 0 cap (P.cellsOf ty) (λi=>d.getD i undef) n j (O b M.symm) k (λi f=> ?_) λi c f=> ?_;rw[Zev,ZdV w b i d ty (0,0) t];have:i<d.size:=by rw[D];exact ZdU f (Zeq _ n)
 simp_all;have⟨u,I,U⟩:=A i c f;have J:d.getD i undef=u:=by
  rw[<-H,Zel]at I;split at I;simp_all;simp at I
 rw[J];exact U.mono r
def RelC.cell{P o k e v}(d:RelC P B s w h o k e v):v.oneCell'=xy:=by
 cases k with
 |fz=>have⟨x,_,f,j⟩:=d;rw[j.one_eq,f]
 |own p=>
  obtain⟨x,_,⟨l,q,_,_,_,⟨_,n⟩,_⟩|⟨_,_,_,_,_,_,_,rfl,_⟩⟩:=d;obtain⟨rfl,_⟩|⟨_,_,_,rfl,_⟩:=n<;>rfl;rfl
 |nil=>obtain⟨rfl,_⟩:=d;rfl
 |dead=>exact d
def RelC.rd{P o k e v}(f:RelC P B s w h o k e v)(u:k≠.dead){G'}(n:∀b,h.F b->G' b)(t:∀j,k=.own j->∀b,o=xk b->G' b):
  ∃x,eval s e=xk x/\x.one=xy/\Rd w G' x v:=by
 cases k with
 |fz=>have⟨x,d,q,r⟩:=f;exact⟨x,d,q,r.mono n⟩
 |own j=>
  have⟨x,d,p⟩:=f;refine⟨x,d,?_,p.rd n (t j rfl)⟩;obtain⟨l,y,rfl,_⟩|⟨_,_,_,_,_,_,rfl,_⟩:=p<;>rfl
 |nil=>obtain⟨rfl,d⟩:=f;exact⟨_,d,rfl,.nil _ _ (ZeS _)⟩
 |dead=>simp_all
def Uw{l xs}(h:YC s l=xk xs):P xs=P l/\∀(i:Nat) e,l[i]?=xk e->∃x,xs[i]?=xk x/\eval s e=xk x:=by
 induction l generalizing xs with
 |nil=>simp only[YC,ZdH]at h;subst h;exact⟨rfl,λi e d=>Zdo⟩
 |cons e l f=>
  simp only[YC,ZdG,ZdK]at h;grind
def Ew{l}(h:∀e∈l,∃x,eval s e=xk x):∃d,YC s l=xk d:=by
 induction l with
 |nil=>exact⟨[],rfl⟩
 |cons e l j=>
  have⟨x,f⟩:=h e Z1;grind [YC]
def VT{l}(h:∀x∈l,x.one=xy):flat l=l:=by
 induction l with
 |nil=>rfl
 |cons x l j=>
  rw[SB,j λy f=>h y (by simp[f])];have d:=h x Z1;cases x<;>first|rfl|simp[V.one]at d
def RelCs.rd{P t cs vs}(L:RelCs P B s w h t cs vs)(S:Wj cs=xh){G'}(I:∀b,h.F b->G' b)(U:Ut cs=xy->∀i b,h.bl t (i+1)=xk b->G' b):
  ∃x,eval s (.ag (cs.map (·.2)))=xk (.agg x)/\xq x=xq cs/\Rd w G' (.agg x) (.agg vs):=by
 have⟨M,J⟩:=L;have key:∀i k e,cs[i]?=xk (k,e)->∃x,eval s e=xk x/\x.one=xy/\Rd w G' x (vs.getD i undef):=by
  intro i k e d;refine(J i (k,e) d).rd ?_ I ?_;grind [Wj,List.any_eq_true];grind [Ut,List.any_eq_true]
 have⟨p,r⟩:=Ew (s:=s) (l:=cs.map (·.2)) (by
  intro e u;simp only[ZdZ]at u;obtain⟨⟨k,R⟩,T,rfl⟩:=u;grind [List.getElem?_of_mem])
 have⟨K,N⟩:=Uw r;have q:xq p=xq cs:=by simpa using K
 have f:∀i x,p[i]?=xk x->x.one=xy/\Rd w G' x (vs.getD i undef):=by
  intro i x d;have j:i<xq cs:=by
   have:=(ZdJ.1 d).1;omega
  have⟨y,Q,D,H⟩:=key i cs[i].1 cs[i].2 (by simp[j]);have⟨z,A,o⟩:=N i (cs[i].2) (by simp[j]);rw[d]at A;cases A;rw[Q]at o;cases o;exact⟨D,H⟩
 have n:∀x∈p,x.one=xy:=λx O=>by
  grind [List.getElem?_of_mem]
 refine⟨p,?_,q,.agg p vs Z0 n λi x d=>(f i x d).2⟩;simp_all[eval,Tt,VT]
def Kd{P t b vs T cs}(l:h.bl t 0=xk b)(H:w.heap[b]?=xk (.cells vs T (0,0)))(n:RelCs P B s w h t cs vs)(D:Wj cs=xh)
  {z} (d:eval s (.pt xw (cs.map (·.2)))=xk z) {G'} (A:∀b,h.F b->G' b) (q:∀i b,h.bl t i=xk b->G' b):Rd w G' z (.pointer (xk ⟨b,0,xw⟩)):=by
 simp only[eval,ZdG]at d;have⟨I,p,d⟩:=d;simp only[KI]at d;split at d;rename_i j;simp at d;subst d;have f:=λx k=>ZdT.1 j x k;have⟨x,k,K,o⟩:=n.rd D (G':=G') A (λ_ i b r=>q _ b r);simp only[eval,p,Ze6,Tt,VT f,ZdH,V.agg.injEq]at k;subst k;cases o with
 |agg _ _ J u y=>
  refine .ptr I b 0 (λi=>vs.getD i undef) (q 0 b l) u (λi r=> ?_) y;rw[Zev,ZdV w b i vs T (0,0) H];simp_all
 cases d
def RelG.ownOf(k:RelG c B G s a w h g){p ty e}(j:ownOf g p=xk (ty,e)):
  ∃v,a.tmps[p]?=xk v/\∃x,eval s e=xk x/\OwnV c.P B w h (h.bl p 1) ty x v:=by
 unfold Vm.ownOf at j;split at j;rename_i n o f;simp at j;obtain⟨rfl,rfl⟩:=j;have⟨v,l,d⟩:=k.at_ p (by rw[f];exact Vv s) (by rw[f];rfl);rw[f]at d;exact⟨v,l,d⟩;grind
def RelG.memOf(l:RelG c B G s a w h g){p cs}(j:memOf g p=xk cs):
  ∃b vs T,h.bl p 0=xk b/\a.tmps[p]?=xk (.pointer (xk ⟨b,0,xw⟩))/\w.heap[b]?=xk (.cells vs T (0,0))/\RelCs c.P B s w h p cs vs:=by
 unfold Vm.memOf at j;split at j;rename_i k f;simp at j;subst j;have⟨v,r,d⟩:=l.at_ p (by rw[f];exact Vv s) (by rw[f];rfl);rw[f]at d;obtain⟨b,vs,T,n,rfl,o,q⟩:=d;simp_all;grind
def IT:TK->Nat×Nat
 |.ref p=>(p,1)
 |.refm p i=>(p,i+1)
 |_=>(0,0)
def RelG.ownAt(y:RelG c B G s a w h g){k ty e}(f:ownAt g k=xk (ty,e)){t v}(r:RelK c.P B s w h (λp=>a.tmps[p]?) t v k):
  ∃x,eval s e=xk x/\OwnV c.P B w h (h.bl (IT k).1 (IT k).2) ty x v:=by
 cases k with
 |ref p=>
  have⟨u,I,x,J,F⟩:=y.ownOf f;have:u=v:=by
   have q:a.tmps[p]?=xk v:=r;rw[I]at q;cases q;rfl
  subst this;exact⟨x,J,F⟩
 |refm p i=>
  simp only[Vm.ownAt,ZdG]at f;have⟨M,D,f⟩:=f;have⟨b,vs,T,z,_,A,H,o⟩:=y.memOf D;have⟨L,j,d⟩:=r;rw[z]at j;cases j;rw[ZdV w b i vs T (0,0) A]at d;have l:vs.getD i undef=v:=by simp[ZdM,d]
  split at f;rename_i K N n;simp at f;obtain⟨rfl,rfl⟩:=f;have:=o i _ n;rw[l]at this;exact this;grind
 |_=>simp[Vm.ownAt]at f
def RelG.place(n:RelG c B G s a w h g){p i ty e}(f:Vm.ownAt g (RX p i)=xk (ty,e)):
  ∃v x,RelK c.P B s w h (λp=>a.tmps[p]?) 0 v (RX p i)/\eval s e=xk x/\OwnV c.P B w h (h.bl p (SU i)) ty x v:=by
 obtain _|i:=i;have⟨u,D,x,q,k⟩:=n.ownOf f;exact⟨u,x,D,q,k⟩;have l:=f;simp only[RX,Vm.ownAt,ZdG]at f;have⟨H,A,f⟩:=f;have⟨b,vs,T,r,_,y,o,t⟩:=n.memOf A;split at f;rename_i F I j;have z:i<vs.size:=by rw[o];exact(ZdJ.1 j).1
 have d:RelK c.P B s w h (λp=>a.tmps[p]?) 0 (vs.getD i undef) (RX p (xk i)):=
  ⟨b,r,by rw[ZdV w b i vs T (0,0) y];simp_all⟩
 have⟨x,q,k⟩:=n.ownAt l d;exact⟨_,x,d,q,k⟩;grind
def DM(K:RelG c B G s a w h g){k t v}(Q:a.tmps[t]?=xk v)(r:RelK c.P B s w h (λp=>a.tmps[p]?) t v k){e sh}(d:XV g k t=xk (e,sh)):
  ∃x,eval s e=xk x/\Rd w (h.ext sh) x v:=by
 cases k with
 |val z A=>simp only[XV,ZdH,ZdW]at d;obtain⟨rfl,rfl⟩:=d;exact r
 |own L z=>
  simp only[XV,ZdH,ZdW]at d;obtain⟨rfl,rfl⟩:=d;have⟨x,y,q⟩:=r;exact⟨x,y,q.rd (λb l=>GH.ext_F l) λb l=>.inr ⟨t,Z1,0,l⟩⟩
 |nil=>
  simp only[XV,ZdH,ZdW]at d;obtain⟨rfl,rfl⟩:=d;have:=r;subst this;exact⟨.sl [],rfl,.nil _ _ (ZeS _)⟩
 |ags I=>
  simp only[XV]at d;split at d;grind;rename_i O;simp at d;obtain⟨rfl,rfl⟩:=d;obtain⟨vs,rfl,D⟩:=r;have⟨x,y,_,M⟩:=D.rd (G':=h.ext (if Ut I=xy then [t]else [])) ZcK (λb l=>GH.ext_F l) (λq i b l=>by rw[if_pos q];exact .inr ⟨t,Z1,i,l⟩);simp_all
 |ref p=>
  simp only[XV,ownAt,ZdK]at d;have⟨⟨L,z⟩,F,d⟩:=d;simp at d;obtain⟨rfl,rfl⟩:=d;have⟨u,N,x,y,q⟩:=K.ownOf F;have:u=v:=by
   have J:a.tmps[p]?=xk v:=r;rw[N]at J;cases J;rfl
  subst this;exact⟨x,y,q.rd (λb l=>GH.ext_F l) λb l=>.inr ⟨p,Z1,0,l⟩⟩
 |refm p i=>
  simp only[XV,ZdK]at d;have⟨⟨L,z⟩,F,d⟩:=d;simp at d;obtain⟨rfl,rfl⟩:=d;have⟨x,y,q⟩:=K.ownAt F (show RelK c.P B s w h (λp=>a.tmps[p]?) t v (.refm p i)from r);exact⟨x,y,q.rd (λb l=>GH.ext_F l) λb l=>.inr ⟨p,Z1,i,l⟩⟩
 |no=>simp[XV]at d
 |mem I=>simp[XV]at d
 |pm p o=>simp[XV]at d
 |pc z o A=>simp[XV]at d
 |pe p i j o k=>simp[XV]at d
 |pa p o j n k=>simp[XV]at d
 |clo f H=>simp[XV]at d
 |big z A=>simp[XV]at d
end
end Vm
namespace Vm
open Go
open Go.RowKit (Below)
def TK.owning:TK->Bool
 |.own .. |.mem _|.ags _=>xy
 |_=>xh
structure Step (B:Nat) (ps rb fz:List Nat) (w w':World) (h h':GH):Prop where
 below:Below B w w'
 same:∀b,b<U (R w)->(∀p∈ps,∀i,h.bl p i≠xk b)->w'.heap[b]?=w.heap[b]?
 F:∀b,h.F b->h'.F b
 bl:∀t,t∉ps->t∉fz->h'.bl t=h.bl t
 fz0:∀t,t∉rb->h'.bl t 0=h.bl t 0
 fzF:∀t i b,t∉ps->t∈fz->h.bl t (i+1)=xk b->h'.F b
 K:h'.K=h.K
section
variable {P:Program}{B:Nat}{G:Nat->Prop}{s:St}{w w':World}{h h':GH}{ps rb fz:List Nat}
def Step.F_same(k:Step B ps rb fz w w' h h')(d:Ok B G w h){b}(f:h.F b):w'.heap[b]?=w.heap[b]? :=
 k.same b (d.f_lt b f) λp _ i j=>(d.b_lt p i b j).2.2 f
def Step.bl_same(l:Step B ps rb fz w w' h h')(d:Ok B G w h){t i b}(n:t∉ps)(f:h.bl t i=xk b):w'.heap[b]?=w.heap[b]? :=
 l.same b (d.b_lt t i b f).2.1 λp o j k=>n (by have:=(d.inj t i p j b f k).1;simp_all)
def Step.ext_same(l:Step B ps rb fz w w' h h')(d:Ok B G w h){sh}(k:∀p∈ps,p∉sh):Same (h.ext sh) w w':=by
 intro b f;obtain f|⟨p,o,i,n⟩:=f;exact l.F_same d f;exact l.bl_same d (λj=>k p j o) n
def Step.ext_mono(k:Step B ps rb fz w w' h h'){sh}(l:∀p∈ps,p∉sh):∀b,h.ext sh b->h'.ext sh b:=by
 intro b j;obtain j|⟨p,o,i,n⟩:=j;exact .inl (k.F b j);have d:=λd=>l p d o;by_cases f:p∈fz;exact .inl (k.fzF p i b d f n);exact .inr ⟨p,o,i,by rw[k.bl p d f];exact n⟩
def Step.exb_same(l:Step B ps rb fz w w' h h')(d:Ok B G w h){big sh}(k:∀p∈ps,p∉sh):Same (h.exb big sh) w w':=by
 intro b f;obtain f|⟨p,o,i,_,n⟩:=f;exact l.F_same d f;exact l.bl_same d (λj=>k p j o) n
def Step.exb_mono(k:Step B ps rb fz w w' h h')(q:∀t∈rb,t∈ps){big sh}(r:∀p∈ps,p∉sh):∀b,h.exb big sh b->h'.exb big sh b:=by
 intro b l;obtain l|⟨p,o,i,j,n⟩:=l;exact .inl (k.F b l);have d:=λd=>r p d o;by_cases f:p∈fz;cases i with
 |zero=>exact .inr ⟨p,o,0,j,by rw[k.fz0 p λu=>d (q p u)];exact n⟩
 |succ i=>exact .inl (k.fzF p i b d f n)
 exact .inr ⟨p,o,i,j,by rw[k.bl p d f];exact n⟩
def Z4t{e k v n xs}(f:w.ownsRow B e k v n xs)(p:∀b,v.ownBlock=xk b->w'.heap[b]?=w.heap[b]?):w'.ownsRow B e k v n xs:=by
 refine⟨f.1,?_⟩;obtain q|⟨g,cap,d,rfl,j,l,o⟩:=f.2;grind;exact .inr ⟨g,cap,d,rfl,j,by rw[p g rfl];exact l,o⟩
def OwnV.keep{o ty x v}(K:OwnV P B w h o ty x v)(t:Same h.F w w')(d:∀b,h.F b->h'.F b)(z:∀b,o=xk b->w'.heap[b]?=w.heap[b]?):OwnV P B w' h' o ty x v:=by
 obtain⟨l,y,rfl,n,p,q,j,r⟩|⟨id,L,y,b,A,k,rfl,rfl,rfl,n,hid,p,q,j,r,D⟩:=K;case inr=>exact .inr ⟨id,L,y,b,A,k,rfl,rfl,rfl,n,hid,by rw[z b rfl];exact p,q,j,λi c f=>(r i c f).keep t d,λi c f=>(D i c f).keep t d⟩
 refine .inl ⟨l,y,rfl,n,p,Z4t q (λb H=>z b (by rw[<-j];exact H)),j,λi c f=> ?_⟩;have⟨u,J,I⟩:=r i c f;exact⟨u,J,I.keep t d⟩
def RelC.keep{o k e v}(f:RelC P B s w h o k e v)(n:Same h.F w w')(d:∀b,h.F b->h'.F b)(q:∀b,o=xk b->w'.heap[b]?=w.heap[b]?):RelC P B s w' h' o k e v:=by
 cases k with
 |fz=>have⟨x,j,l,p⟩:=f;exact⟨x,j,l,p.keep n d⟩
 |own r=>have⟨x,j,l⟩:=f;exact⟨x,j,l.keep n d q⟩
 |nil=>exact f
 |dead=>exact f
def RelCs.keep{t cs vs}(j:RelCs P B s w h t cs vs)(l:Same h.F w w')(d:∀b,h.F b->h'.F b)(f:∀i,h'.bl t (i+1)=h.bl t (i+1))(p:∀i b,h.bl t (i+1)=xk b->w'.heap[b]?=w.heap[b]?):RelCs P B s w' h' t cs vs:=
 ⟨j.1,λi k o=>by rw[f];exact(j.2 i k o).keep l d λb n=>p _ b n⟩
def Z05{k}(hc:Vb ps rb fz k=xy):(∀p∈ps,Uo p k=xh)/\(∀p∈rb,leads p k=xh)/\QJ fz k=xh:=by
 simp_all[Vb,ZdL,ZeJ,ZgK,ZgW]
def RelK.keep{tm W t v k}(H:RelK P B s w h tm t v k)(l:Step B ps rb fz w w' h h')(u:Ok B G w h)(U:∀t∈rb,t∈ps)
  (L:t∉ps) (z:t∈fz->k.owning=xh) (O:Vb ps rb fz k=xy) (a0:∀p,p∉ps->W p=tm p):RelK P B s w' h' W t v k:=by
 have⟨I,Q,A⟩:=Z05 O;have Y:Same h.F w w':=λb N=>l.F_same u N;cases k with
 |no=>trivial
 |val e sh=>
  have⟨x,M,r⟩:=H;have y:=λp d A=>Zds;exact⟨x,M,r.keep (l.ext_same u y) (l.ext_mono y)⟩
 |big e sh=>
  have⟨x,M,r⟩:=H;have y:=λp d A=>Zds;exact⟨x,M,r.keep (l.exb_same u y) (l.exb_mono U y)⟩
 |own ty e=>
  have⟨x,M,r⟩:=H;refine⟨x,M,?_⟩;have z:t∉fz:=λS=>by cases z S
  rw[l.bl t L z];exact r.keep Y l.F λb N=>l.bl_same u L N
 |nil=>exact H
 |mem cs=>
  have⟨b,vs,T,r,D,J,K⟩:=H;have z:t∉fz:=λS=>by cases z S
  exact⟨b,vs,T,by rw[l.bl t L z];exact r,D,by rw[l.bl_same u L r];exact J,K.keep Y l.F (λi=>by rw[l.bl t L z]) λi b N=>l.bl_same u L N⟩
 |ags cs=>
  have⟨vs,D,K⟩:=H;have z:t∉fz:=λS=>by cases z S
  exact⟨vs,D,K.keep Y l.F (λi=>by rw[l.bl t L z]) λi b N=>l.bl_same u L N⟩
 |ref p=>
  have d:p∉ps:=λd=>by have:=I p d;simp[Uo]at this
  exact(a0 p d).trans H
 |refm p i=>
  have d:p∉ps:=λd=>by have:=I p d;simp[Uo]at this
  have⟨b,r,D⟩:=H;exact⟨b,by rw[l.fz0 p (λhr=>d (U p hr))];exact r,by rw[ZeE (w:=w) (a:=⟨b,i,xw⟩) (l.bl_same u d r)];exact D⟩
 |pm p o=>
  have⟨b,r,D⟩:=H;have d:p∉rb:=λd=>by have:=Q p d;simp[leads]at this
  exact⟨b,by rw[l.fz0 p d];exact r,D⟩
 |pc e o sh=>
  have⟨x,b,q,vs,M,r,D,J,K,X⟩:=H;have y:=λp d A=>Zds;exact⟨x,b,q,vs,M,r,l.ext_mono y b D,J,λi R=>by rw[(l.ext_same u y).cell D];exact K i R,λi ck R=>(X i ck R).keep (l.ext_same u y) (l.ext_mono y)⟩
 |pe p i j o k=>
  have d:p∉ps:=λd=>by have:=I p d;simp[Uo]at this
  have Z:=λd=>by simp[QJ]at A;exact A d
  have⟨n,q,r,D,J⟩:=H;exact⟨n,q,by rw[l.bl p d Z];exact r,D,J⟩
 |pa p o j n k=>
  have d:p∉rb:=λd=>by have:=Q p d;simp[leads]at this
  have⟨b,q,r,D,J,K⟩:=H;exact⟨b,q,by rw[l.fz0 p d];exact r,D,J,K⟩
 |clo f a1=>
  have⟨vs,r,D,J⟩:=H;refine⟨vs,r,D,λi p R=> ?_⟩;have⟨b,K,X⟩:=J i p R;have d:=λd=>by have:=Q p d;simp[leads]at this;exact this (ZdQ R)
  exact⟨b,by rw[l.fz0 p d];exact K,X⟩
end
def PRes(c:Ctx)(B:Nat)(G:Nat->Prop)(s:St)(w:World)(h:GH)(f:Nat->Option Value)(d:Nat)(k:TK)(v:Value)(w':World):Prop:=
 ∃h',Step B [d] [d] [] w w' h h'/\Ok B G w' h'/\RelK c.P B s w' h' f d v k
section
variable {c:Ctx}{B:Nat}{G:Nat->Prop}{s:St}{a:Act}{w:World}{h:GH}{g:Gam}{C:ZB}
def Step.refl ps rb w h:Step B ps rb [] w w h h:=⟨Zei _ _,λ_ _ _=>rfl,λ_ d=>d,λ_ _ _=>rfl,λ_ _=>rfl,λ_ _ _ _ f=>(by simp at f),rfl⟩
theorem PRes.here{j d k v}(f:Ok B G w h)(l:RelK c.P B s w h j d v k):PRes c B G s w h j d k v w:=
 ⟨h,Step.refl _ _ _ _,f,l⟩
def Hl(r:RelG c B G s a w h g)(n:holds s (ZE c C)){x k}(hx:Yk g C x=k)(o:k.isNo=xh):
  (∃v,x=.const v)\/(∃t,x=.tmp t/\look g C t=k/\∃v,a.tmps[t]?=xk v/\a.eval x=v/\RelK c.P B s w h (λp=>a.tmps[p]?) t v k)\/∃f,x=.func f/\ .val (.c (.fn f)) []=k:=by
 cases x with
 |const v=>simp
 |tmp t=>
  have j:=hx;have⟨v,l,d,_⟩:=r.look n j o;exact .inr (.inl ⟨t,rfl,j,v,l,Act.eval_tmp a t v l,d⟩)
 |global q=>grind [Yk,TK.isNo]
 |func f=>exact .inr (.inr ⟨f,rfl,hx⟩)
def WD(k:RelG c B G s a w h g)(n:holds s (ZE c C)){x e sh}(d:Yv g C x=xk (e,sh)):
  ∃y,eval s e=xk y/\Rd w (h.ext sh) y (a.eval x):=by
 unfold Yv at d;cases x with
 |tmp t=>
  simp only at d;have o:(Yk g C (.tmp t)).isNo=xh:=by
   cases r:Yk g C (.tmp t)<;>first|rfl|simp_all[XV]
  have⟨v,l,j,_⟩:=k.look n rfl o;rw[Act.eval_tmp a t v l];exact DM k l j d
 |const v=>
  simp only[Yk]at d;split at d;rename_i heq;simp at heq;subst heq;simp only[XV,ZdH,ZdW]at d;obtain⟨rfl,rfl⟩:=d;exact⟨_,rfl,.nil _ _ (ZeS _)⟩;rename_i heq;simp at heq;subst heq;split at d;rename_i x p;simp only[XV,ZdH,ZdW]at d;obtain⟨rfl,rfl⟩:=d;exact⟨x,rfl,LG p _ _⟩;grind [XV];simp_all;simp_all;grind
 |global q=>grind [Yk,XV]
 |func f=>
  simp at d;obtain⟨rfl,rfl⟩:=d;exact⟨.fn f,rfl,.fn f⟩
def RV(j:RelG c B G s a w h g)(d:holds s (ZE c C)){x e sh}(f:Yk g C x=.val e sh):
  ∃y,eval s e=xk y/\Rd w (h.ext sh) y (a.eval x):=WD j d (by unfold Yv;rw[f];rfl)
def J1(o:RelG c B G s a w h g)(l:holds s (ZE c C)){x}(j:Yk g C x=.nil):a.eval x=.slice xw 0 0:=by
 obtain⟨v,rfl⟩|⟨t,rfl,_,v,p,k,d⟩|⟨f,_,n⟩:=Hl o l j rfl;rotate_left 2;cases n;simp only[Yk]at j;split at j;rename_i heq;simp at heq;subst heq;rfl;grind;simp_all;simp_all;grind;rw[k];exact d
def Rd.F{x v}(hx:Rd w (h.ext []) x v):Rd w h.F x v:=hx.mono λ_ d=>GH.ext_nil d
theorem Rd.flat{G' G'' x v}(hx:Rd w G' x v)(d:x.flatc=xy):Rd w G'' x v:=by
 cases hx<;>first|exact .int _ _|exact .bool _|exact .str _|simp[V.flatc]at d
def Z6j{op x y z}(d:Xe op x y=xk z){G' G'' v u}(o:Rd w G' x v)(l:Rd w G'' y u)T q t:
  ∃r,(do eqGuard op T q t v u;binOp op T v u:Sem Value).run c.P w=.ok r w/\Rd w h.F z r:=by
 cases o<;>cases l<;>(try (cases op<;>simp[Xe]at d;done))
 rename_i k n A p;cases op<;>simp only[Xe]at d<;>(try split at d)<;>(try simp only[ZdH]at d)<;>(try subst d)<;>(try (simp at d;done));all_goals
  first|refine⟨.int _ _,?_,.int _ _⟩|refine⟨.bool _,?_,.bool _⟩
  first
   |(rename_i f;subst f;simp[eqGuard,binOp,Op.intArith,Op.intBits,Op.intCmp];done)
   |(rename_i f;obtain⟨rfl,j⟩:=f;simp[eqGuard,binOp,Op.intDiv,j];done)
   | (rename_i f;have:¬p<0:=by omega
      simp[eqGuard,binOp,Op.shift,this];done)
def MD{neg x y z}(d:Sx neg x y=xk z){G' G'' v u}(l:Rd w G' x v)(k:Rd w G'' y u){T}(f:jl c.P T=xy)n o:
  ∃r,(do eqGuard (if neg then .neq else .eql) T n o v u;binOp (if neg then .neq else .eql) T v u:Sem Value).run c.P w=.ok r w/\Rd w h.F z r:=by
 have j:c.P.underlying T=xk .bool:=by
  unfold jl at f;split at f;assumption;simp at f
 cases l with
 |bool a=>
  cases k with
  |bool b=>
   simp only[Sx,ZdH]at d;subst d;refine⟨.bool _,?_,.bool _⟩;cases neg;simp_all[run_eql_bool,eqGuard];simp_all[run_neq_bool,eqGuard]
  |_=>simp[Sx]at d
 |_=>simp[Sx]at d
def Z6u{op x z}(d:Se op x=xk z){G' v}(f:Rd w G' x v):∃r,(Op.unary op v).run c.P w=.ok r w/\Rd w h.F z r:=by
 cases f<;>(try (cases op<;>simp[Se]at d;done))
 .rename_i k n;cases op<;>simp only[Se,ZdH]at d<;>first|(simp at d;done)|skip
  subst d;exact⟨.int _ _,ZdB,.int _ _⟩
 .rename_i b;cases op<;>simp only[Se,ZdH]at d<;>first|(simp at d;done)|skip
  subst d;exact⟨.bool _,ZdB,.bool _⟩
def Z6k{k x z}(d:Qu k x=xk z){G' v}(j:Rd w G' x v){S T}(f:(c.P.underlying S).isSome=xy)(n:c.P.underlying T=xk (.int k)):
  ∃r,(convert S T v).run c.P w=.ok r w/\Rd w h.F z r:=by
 have⟨l,f⟩:=ZeR.1 f;cases j<;>(try (simp[Qu]at d;done));simp only[Qu,ZdH]at d;subst d;exact⟨.int _ _,by simp_all[convert,Zex,Conv.intToInt],.int _ _⟩
def Z6m{x z}(d:RL x=xk z){G' v}(j:Rd w G' x v){T ty e}(f:c.P.underlying T=xk (.slice e)):
  ∃r,(Builtin.len_ #[T] ty #[v]).run c.P w=.ok r w/\Rd w h.F z r:=by
 cases j with
 |nil n cap D=>
  simp only[RL,ZdH]at d;subst d;exact⟨.int .i64 0,Zdq,.int _ _⟩
 |sl l b o cap k vs p q t u y A=>
  simp only[RL,ZdH]at d;subst d;exact⟨.int .i64 (P l),Zdq,.int _ _⟩
 |_=>simp[RL]at d
def Z6p{x y z}(d:RR x y=xk z){G' G'' v u}(j:Rd w G' x v)(f:Rd w G'' y u)ts ty:
  ∃r,(Builtin.min_ ts ty #[v,u]).run c.P w=.ok r w/\Rd w h.F z r:=by
 cases j<;>(try (simp[RR]at d;done));cases f<;>(try (simp[RR]at d;done));rename_i k n l o;simp only[RR,ZdH]at d;subst d;exact⟨.int k _,ZdB,.int _ _⟩
def Z6n{x y z}(d:RQ x y=xk z){G' G'' v u}(j:Rd w G' x v)(f:Rd w G'' y u)ts ty:
  ∃r,(Builtin.max_ ts ty #[v,u]).run c.P w=.ok r w/\Rd w h.F z r:=by
 cases j<;>(try (simp[RQ]at d;done));cases f<;>(try (simp[RQ]at d;done));rename_i k n l o;simp only[RQ,ZdH]at d;subst d;exact⟨.int k _,ZdB,.int _ _⟩
def Z6l{x z i}(d:Tz x i=xk z){G' v}(n:Rd w G' x v):∃r,(Instr.extract v i).run c.P w=.ok r w/\Rd w G' z r:=by
 cases n<;>(try (simp[Tz]at d;done));rename_i l vs j k;simp only[Tz]at d;have f:i<vs.size:=by rw[j];exact(ZdJ.1 d).1
 refine⟨vs.getD i undef,?_,k i z d⟩;simp[Instr.extract,f,ZdM]
theorem VX{P T}(f:X2 P T=xy):∃d i,P.underlying T=xk d/\P.info? T=xk i/\P.cellsOf T=i.size/\∀w,(isAgg T).run P w=.ok (Y4 P T) w:=by
 simp only[X2,ZdL]at f;have⟨d,j⟩:=ZeR.1 f.1;have⟨i,k⟩:=ZeR.1 f.2;refine⟨d,i,j,k,by simp[Program.cellsOf,k],λw=> ?_⟩;unfold isAgg Y4;rw[Zen,Zex j w,j];cases d<;>rfl
theorem U2{P T i}(d:P.info? T=xk i)w:(Go.sizeOf T).run P w=.ok i.size w:=by
 simp[Go.sizeOf,typeInfo,d]
def L0{P T}(j:X2 P T=xy)(k:Y4 P T=xh){b o v}(hc:w.cell? ⟨b,o,xw⟩=xk v):
  (Instr.loadAt T (.pointer (xk ⟨b,o,xw⟩))).run P w=.ok v w:=by
 have⟨d,i,l,n,p,f⟩:=VX j;simp_all[Instr.loadAt,Instr.sureAddr,loadVar]
def yX{P T}(k:X2 P T=xy)(l:Y4 P T=xy){b o}(vs:List Value)(t:xq vs=P.cellsOf T)(hc:∀i u,vs[i]?=xk u->w.cell? ⟨b,o+i,xw⟩=xk u):
  (Instr.loadAt T (.pointer (xk ⟨b,o,xw⟩))).run P w=.ok (.agg vs.toArray) w:=by
 have⟨d,i,n,p,x,f⟩:=VX k;have r:=run_loadCells_list (P:=P) w ⟨b,o,xw⟩ vs (λj u q=>by simp_all[Zfr]);simp_all[Instr.loadAt,Instr.sureAddr,loadVar,U2]
theorem TU{x z}(h:YQ x=xk z):x=z/\z.one=xy:=by
 unfold YQ at h;grind
def Z52{p cs}:∀ {i},UL p i cs=xy->∀j x,cs[j]?=xk x->x.2=E.m p (i+j):=by
 induction cs with
 |nil=>simp
 |cons y r l=>
  intro i d j x f;have⟨k,e⟩:=y;cases e<;>simp only[UL]at d<;>first|(cases d;done)|skip
  grind
theorem jo{p i cs x}(T:UL p i cs=xy)(H:0<P cs)(hx:eval s (.ag (cs.map (·.2)))=xk (.agg x))(t:∀(j:Nat) e,cs[j]?=xk e->∃y,eval s e.2=xk y/\y.one=xy):
  eval s (.mm p i (P cs))=xk (.agg x):=by
 simp only[eval,ZdK]at hx;have⟨k,M,S⟩:=hx;have⟨O,d⟩:=Uw M;have f:P k=P cs:=by simpa using O
 have J:∀j,j<P cs->∃l,get s p=.m l/\∃y,l[i+j]?=xk y/\k[j]?=xk y:=by
  intro j q;have⟨y,J,o⟩:=d j (cs[j].2) (by simp[q]);rw[Z52 T j cs[j] Z1]at o;simp only[eval]at o;split at o;rename_i l O;rw[ZdG]at o;have⟨X,o,n⟩:=o;obtain⟨rfl,_⟩:=TU n;simp_all;grind
 have⟨l,D,_⟩:=J 0 H;have K:∀j,j<P cs->l[i+j]?=k[j]? :=by
  intro j q;have⟨W,f,y,n,A⟩:=J j q;rw[D]at f;cases f;rw[n,A]
 have Q:i+P cs<=P l:=by
  have n:=K (P cs-1) Z0;have A:k[P cs-1]?=xk k[P cs-1]:=ZdI Z0;rw[A]at n;have:=(ZdJ.1 n).1;omega
 have R:(l.drop i).take (P cs)=k:=by
  apply ZfH;intro j;rw[Zel];split;simp_all;simp_all
 have I:∀y∈k,y.one=xy:=by
  intro y L;have⟨j,q⟩:=Zee L;have F:j<P cs:=by have:=(ZdJ.1 q).1;omega
  have⟨z,U,N⟩:=t j cs[j] Z1;have⟨Y,u,r⟩:=d j (cs[j].2) (by simp[F]);rw[q]at u;cases u;rw[U]at r;cases r;exact N
 simp_all[Tt,V.agg.injEq,VT,eval,Zes]
def RelCs.part{P t cs vs}(j:RelCs P B s w h t cs vs){o n}(l:xq ((cs.drop o).take n)=n):
  ∀i f,((cs.drop o).take n)[i]?=xk f->RelC P B s w h (h.bl t (o+i+1)) f.1 f.2 (vs.getD (o+i) undef)/\vs[o+i]?=xk (vs.getD (o+i) undef):=by
 intro i f d;rw[Zel]at d;split at d;rw[Zec]at d;refine⟨j.2 _ _ d,?_⟩;have k:o+i<vs.size:=by rw[j.1];exact(ZdJ.1 d).1
 simp_all;grind
def RelCs.part_rd{P t cs vs}(L:RelCs P B s w h t cs vs){o n}(D:xq ((cs.drop o).take n)=n)(Z:Wj ((cs.drop o).take n)=xh){G'}(O:∀b,h.F b->G' b)
  (ho:Ut ((cs.drop o).take n)=xy->∀i b,h.bl t (i+1)=xk b->G' b):
  ∃x,eval s (.ag (((cs.drop o).take n).map (·.2)))=xk (.agg x)/\xq x=n/\(∀(j:Nat) e,((cs.drop o).take n)[j]?=xk e->∃y,eval s e.2=xk y/\y.one=xy)/\
   Rd w G' (.agg x) (.agg ((vs.toList.drop o).take n).toArray)/\∀i u,((vs.toList.drop o).take n)[i]?=xk u->vs[o+i]?=xk u:=by
 have S:=L.part D;have T:xq ((vs.toList.drop o).take n)=n:=by
  have J:=L.1;simp at D⊢;omega
 have H:∀i,i<n->((vs.toList.drop o).take n)[i]?=vs[o+i]? :=by
  intro i d;rw[Zel,if_pos d,Zec,Zf5]
 have key:∀i k e,((cs.drop o).take n)[i]?=xk (k,e)->∃x,eval s e=xk x/\x.one=xy/\Rd w G' x (vs.getD (o+i) undef):=by
  intro i k e d;refine(S i (k,e) d).1.rd ?_ O ?_;grind [Wj,List.any_eq_true];grind [Ut,List.any_eq_true]
 have f:∀e∈((cs.drop o).take n).map (·.2),∃x,eval s e=xk x:=by
  intro e Q;obtain⟨⟨k,Y⟩,hm,rfl⟩:=ZdZ.1 Q;grind [List.getElem?_of_mem]
 have⟨r,I⟩:=Ew f;have⟨R,U⟩:=Uw I;have A:xq r=n:=by rw[R,Zem,D]
 have K:∀i x,r[i]?=xk x->x.one=xy/\Rd w G' x (vs.getD (o+i) undef):=by
  intro i x d;have l:i< xq ((cs.drop o).take n):=by
   have:=(ZdJ.1 d).1;omega
  have⟨y,X,J,N⟩:=key i ((cs.drop o).take n)[i].1 ((cs.drop o).take n)[i].2 ZcK;have⟨z,M,q⟩:=U i (((cs.drop o).take n)[i].2) ZcK;rw[d]at M;cases M;rw[X]at q;cases q;exact⟨J,N⟩
 have p:∀x∈r,x.one=xy:=λx W=>by
  grind [List.getElem?_of_mem]
 refine⟨r,?_,A,λj e hj=> ?_,.agg r _ ZcL p λi x d=> ?_,λi u d=> ?_⟩;simp_all[eval,Ze6,Tt,VT];grind;have l:i<n:=by have:=(ZdJ.1 d).1;omega
 have:((vs.toList.drop o).take n).toArray.getD i undef=vs.getD (o+i) undef:=by
  simp only[ZdM,Zfn,H i l]
 simp_all;grind
end
end Vm
namespace Vm
open Go
open Go.RowKit (Below)
section
variable {c:Ctx}{B:Nat}{G:Nat->Prop}{s:St}{a:Act}{w:World}{h:GH}{g:Gam}{C:ZB}
def Has(c:Ctx)(B:Nat)(s:St)(w:World)(h:GH)(f:Nat->Option Value)(d:Nat)(k:TK)(m:Sem Value):Prop:=
 ∃v,m.run c.P w=.ok v w/\RelK c.P B s w h f d v k
theorem jz{x z o}(h:ZY x o=xk z):x.pc[o]?=xk z:=by
 unfold ZY at h;rw[ZdG]at h;have⟨y,d,f⟩:=h;rw[d,(TU f).1]
def LZ{x z o n}(h:Ua x o n=xk z):o+n<=P x.pc/\z=.agg ((x.pc.drop o).take n):=by
 simp_all[Ua,ZdH]
def Ai{T}(H:X2 c.P T=xy){x b q o}{vs:Nat->Value}{sh}(r:∀y∈x.pc,y.one=xy)
  (j:∀i,i<P x.pc->w.cell? ⟨b,q+i,xw⟩=xk (vs i)) (t:∀i y,x.pc[i]?=xk y->Rd w (h.ext sh) y (vs i)) {e} (D:eval s e=xk x)
  (F:∃z,eval s (if Y4 c.P T then .flds e o (c.P.cellsOf T)else .fld e o)=xk z) K d:
  Has c B s w h K d (.val (if Y4 c.P T then .flds e o (c.P.cellsOf T)else .fld e o) sh) (Instr.loadAt T (.pointer (xk ⟨b,q+o,xw⟩))):=by
 have⟨z,l⟩:=F;cases k:Y4 c.P T with
 |false=>
  rw[k]at l;simp only[Ze1,Zew,eval,D,ZdS]at l⊢;have A:=jz l;have f:=(ZdJ.1 A).1;exact⟨vs o,L0 H k (j o f),z,by simp only[eval,D,ZdS];exact l,t o z A⟩
 |true=>
  rw[k]at l;simp only[Zes,eval,D,ZdS]at l⊢;obtain⟨I,rfl⟩:=LZ l;have p:P ((x.pc.drop o).take (c.P.cellsOf T))=c.P.cellsOf T:=ZcM;refine⟨.agg ((List.range (c.P.cellsOf T)).map λi=>vs (o+i)).toArray,yX H k _ Z1 (λi u n=> ?_),_,by simp only[eval,D,ZdS];exact l,?_⟩;have f:i<c.P.cellsOf T:=by simpa using(ZdJ.1 n).1
  have:vs (o+i)=u:=by simpa[f]using n
  rw[<-this,Zf1];exact j (o+i) Z0;refine .agg _ _ (by simp only[ZeY,Zem,Zhs,p]) (λy J=>r y (Zff (ZeF J))) λi y n=> ?_;have f:i<c.P.cellsOf T:=by have:=(ZdJ.1 n).1;omega
  rw[Zel,if_pos f,Zec]at n;have:((List.range (c.P.cellsOf T)).map λi=>vs (o+i)).toArray.getD i undef=vs (o+i):=by
   simp[ZdM,f]
  rw[this];exact t (o+i) y n
def Rd.flatAll{G' G'' x v}(hx:Rd w G' x v)(t:∀y∈x.cells,y.flatc=xy)(L:∀l,x≠.tup l):Rd w G'' x v:=by
 cases hx with
 |agg q vs d j p=>exact .agg q vs d j λi y u=>(p i y u).flat (t y (ZdQ u))
 |tup l vs d j=>simp_all
 |int k n=>exact .int _ _
 |bool b=>exact .bool _
 |str b=>exact .str _
 |nil a cap F=>exact .nil _ _ F
 |sl l b o cap k vs d j p r A D=>simp_all[absurd,V.cells,V.flatc]
 |ptr q b o vs d j p r=>simp_all[absurd,V.cells,V.flatc]
 |fn f=>exact .fn f
 |clo f q vs d j=>simp_all[absurd,V.cells,V.flatc]
 |nul0=>exact .nul0
 |nul1=>exact .nul1
 |nomp=>exact .nomp
 |mp id H I b z J K d j p r A D=>exact absurd (t (.mp id H I) (by simp[V.cells])) (by simp[V.flatc])
def J0(q:RelG c B G s a w h g)(l:holds s (ZE c C)){x k}(hx:Yk g C x=k)(d:k.isNo=xh):
  ((∃e,k=.val e [])\/k=.nil)\/∃t,x=.tmp t/\(∃v,a.tmps[t]?=xk v/\a.eval x=v/\RelK c.P B s w h (λp=>a.tmps[p]?) t v k)/\(g.at t).2=k/\Rm (g.at t).1 C=xy:=by
 obtain⟨v,rfl⟩|⟨t,rfl,o,v,z,n,j⟩|⟨f,_,y⟩:=Hl q l hx d;rotate_left 2;grind;left;simp only[Yk]at hx;split at hx;exact .inr hx.symm;split at hx;exact .inl ⟨_,hx.symm⟩;subst hx;simp[TK.isNo]at d;simp_all;simp_all;subst hx;simp[TK.isNo]at d;have⟨r,u⟩:=GB o d;simp_all
def RelK.moved{f t d v k}(l:RelK c.P B s w h f t v k)(j:k.free=xy):RelK c.P B s w h f d v k:=by
 cases k<;>first|exact l|simp[TK.free]at j
def XE(n:RelG c B G s a w h g)(j:holds s (ZE c C)){x k}(hx:Yk g C x=k)(q:k.free=xy)d:
  RelK c.P B s w h (λp=>a.tmps[p]?) d (a.eval x) k:=by
 have r:k.isNo=xh:=by cases k<;>first|rfl|simp[TK.free]at q
 obtain(⟨e,rfl⟩|rfl)|⟨t,rfl,⟨v,z,l,f⟩,_⟩:=J0 n j hx r;have⟨y,u,o⟩:=RV n j hx;exact⟨y,u,o⟩;exact J1 n j hx;rw[l];exact f.moved q
def Z4W(n:RelG c B G s a w h g)(q:holds s (ZE c C)){x k es}(f:Bz g C x=xk (k,es))d:
  RelK c.P B s w h (λp=>a.tmps[p]?) d (a.eval x) k:=by
 unfold Bz at f;split at f;rename_i A;simp at f;obtain⟨rfl,rfl⟩:=f;exact XE n q rfl A d;split at f;rename_i t F e _ l;simp at f;obtain⟨rfl,rfl⟩:=f;have⟨v,j,_⟩:=n.look q (show look g C t=_ from l) rfl;rw[Act.eval_tmp a t v j];exact j;rename_i t r _ l;simp at f;obtain⟨rfl,rfl⟩:=f;have⟨v,j,⟨b,vs,T,u,y,_⟩,_⟩:=n.look q (show look g C t=_ from l) rfl;rw[Act.eval_tmp a t v j];exact⟨b,u,y⟩;rename_i t r _ l;simp only[ZdK]at f;have⟨⟨e,D⟩,z,f⟩:=f;simp at f;obtain⟨rfl,rfl⟩:=f;have⟨v,j,o,_⟩:=n.look q (show look g C t=_ from l) rfl;rw[Act.eval_tmp a t v j];exact DM n j o z;grind
def Ru{fl b v y}(o:eval s b.1=xk y)(j:Rd w (h.ext b.2) y v)(q:∃z,eval s (XC fl b).1=xk z):
  ∃z,eval s (XC fl b).1=xk z/\Rd w (h.ext (XC fl b).2) z v:=by
 have⟨z,d⟩:=q;unfold XC at d⊢;split;simp_all;split;rename_i n f;simp only[n,f,Ze1,Zew,Zes,eval,o,ZdS]at d;refine⟨z,by simp_all[eval,ZdS],?_⟩;unfold Wm at d;split at d;grind;rename_i r;split at d;rename_i k;simp at d;subst d;exact j.flatAll (λy t=>ZcL) λl p=>r l p;grind;simp_all
def Z4H(o:RelG c B G s a w h g)(n:holds s (ZE c C)){ty x k es}(j:Bl c g C ty x=xk (k,es))(t:∀e∈es,∃z,eval s e=xk z)d:
  RelK c.P B s w h (λp=>a.tmps[p]?) d (a.eval x) k:=by
 unfold Bl at j;split at j;rename_i e l;simp at j;obtain⟨rfl,rfl⟩:=j;exact XE o n l rfl d;rename_i e p D l;split at j;simp at j;obtain⟨rfl,rfl⟩:=j;have⟨y,u,q⟩:=RV o n l;have:=Ru (s:=s) (w:=w) (h:=h) (fl:=xy) (b:=(e,p::D)) u q (by simp_all[XC]);have⟨z,F,A⟩:=this;exact⟨z,by simp_all[XC],by simp_all[XC]⟩;grind;rename_i l;simp at j;obtain⟨rfl,rfl⟩:=j;exact XE o n l rfl d;rename_i f r l;simp at j;obtain⟨rfl,rfl⟩:=j;exact XE o n l rfl d;grind
def Z4X(H:RelG c B G s a w h g)(A:holds s (ZE c C)){x k es}(f:BA g C x=xk (k,es))(D:∀e∈es,∃z,eval s e=xk z)o(L:o.op=.nilCheck x)d:
  ∃v,(execOp a.eval o).run c.P w=.ok (.value v) w/\RelK c.P B s w h (λp=>a.tmps[p]?) d v k:=by
 unfold execOp;simp only[L];unfold BA at f;split at f;rename_i M l;simp at f;obtain⟨rfl,rfl⟩:=f;obtain⟨t,rfl,⟨v,N,F,⟨b,vs,T,j,rfl,_⟩⟩,_⟩:=(J0 H A l rfl).resolve_left Z1;rw[F];exact⟨_,rfl,b,j,rfl⟩;rename_i p q l;simp at f;obtain⟨rfl,rfl⟩:=f;have⟨b,j,u⟩:=XE H A l rfl d;rw[u];exact⟨_,rfl,b,j,rfl⟩;rename_i e O l;simp at f;obtain⟨rfl,rfl⟩:=f;have⟨y,I,n⟩:=RV H A l;have⟨z,r⟩:=D _ (List.Mem.head _);generalize a.eval x=v at n;simp only[eval,I,ZdS]at r;unfold UP at r;split at r;cases n with
 |ptr _ b o vs j u J K=>exact⟨_,rfl,_,I,.ptr _ b o vs j u J K⟩
 cases r;grind
theorem Gu(S:RelG c B G s a w h g){T}(F:X2 c.P T=xy){p o k}(l:zD c g T p o=xk k){b}(q:h.bl p 0=xk b)d:
  Has c B s w h (λp=>a.tmps[p]?) d k (Instr.loadAt T (.pointer (xk ⟨b,o,xw⟩))):=by
 unfold zD at l;simp only[ZdG]at l;have⟨M,O,l⟩:=l;have⟨Y,vs,J,H,_,I,j⟩:=S.memOf O;rw[q]at H;cases H;split at l;rename_i r;split at l;rename_i y;have⟨Q,N,Z⟩:=y;simp at l;have⟨x,L,W,K,z,U⟩:=j.part_rd Q N (G':=h.ext (if Ut ((M.drop o).take (c.P.cellsOf T))=xy then [p]else [])) (λb q=>GH.ext_F q) (λR i b q=>by rw[if_pos R];exact .inr ⟨p,Z1,i,q⟩);refine⟨_,yX F r ((vs.toList.drop o).take (c.P.cellsOf T)) ?_ (λi u hi=> ?_),?_⟩;have h2:=j.1;simp_all;grind [cell_of_row];rw[<-l];refine⟨.agg x,?_,z⟩;grind [jo];grind;rename_i r;have n:Y4 c.P T=xh:=by simpa using r
 split at l;rename_i e t;simp at l;have⟨x,L,H,z⟩:=j.2 o _ t;have A:o<vs.size:=Zdg;refine⟨vs.getD o undef,L0 F n Zdk,?_⟩;rw[<-l];exact⟨x,L,z.mono λb q=>GH.ext_F q⟩;rename_i X e t;simp at l;have A:o<vs.size:=Zdg;have f:w.cell? ⟨b,o,xw⟩=xk (vs.getD o undef):=Zdk;refine⟨vs.getD o undef,L0 F n f,?_⟩;rw[<-l];exact⟨b,q,f⟩;rename_i e t;simp at l;have⟨D,_⟩:=j.2 o _ t;have A:o<vs.size:=Zdg;have f:w.cell? ⟨b,o,xw⟩=xk (vs.getD o undef):=Zdk;refine⟨vs.getD o undef,L0 F n f,?_⟩;rw[<-l];exact D;grind
def Lu{x i z n k ag}(f:Y6 x i n k ag=xk z):∃d l j,x=.agg d/\i=.int l (j:Nat)/\j<n/\P d=n*k/\
  (if ag then xk (V.agg ((d.drop (j*k)).take k))else d[j*k]?)=xk z:=by
 unfold Y6 at f;split at f;rename_i d l i;split at f;rename_i q;have⟨o,r,p⟩:=q;obtain⟨j,rfl⟩:=ZdX o;exact⟨d,l,j,rfl,rfl,Z0,p,ZcZ⟩;grind;grind
theorem Z2S(hr:RelG c B G s a w h g){T}(hT:X2 c.P T=xy){p o j m f k}(J:Ag c g T p o j m f=xk k)(Z:∀e∈CM k,∃z,eval s e=xk z)
  {b q} (L:h.bl p 0=xk b) {ki} (hj:eval s j=xk (.int ki (q:Nat))) (hq:q<m) d:
  Has c B s w h (λp=>a.tmps[p]?) d k (Instr.loadAt T (.pointer (xk ⟨b,o+q*f,xw⟩))):=by
 unfold Ag at J;simp only[ZdG]at J;have⟨K,hm,J⟩:=J;have⟨b',vs,ty,Y,_,hh,Q⟩:=hr.memOf hm;rw[L]at Y;cases Y;split at J;rename_i M;have⟨X,hk,h0,a4,hd⟩:=M;simp only[ZdH]at J;have⟨x,hx,W,U,a5,a9⟩:=Q.part_rd X hd (G':=h.F) (λb L=>L) (λho=>by rw[a4]at ho;cases ho);have I:eval s (if UL (c.ix p) o ((K.drop o).take (m*f))=xy then E.mm (c.ix p) o (P ((K.drop o).take (m*f))) else .ag (((K.drop o).take (m*f)).map (·.2)))=xk (.agg x):=by
  split;rename_i hp;exact jo hp (by rw[X];exact h0) hx U;exact hx
 generalize (if UL (c.ix p) o ((K.drop o).take (m*f))=xy then E.mm (c.ix p) o (P ((K.drop o).take (m*f))) else .ag (((K.drop o).take (m*f)).map (·.2)))=ee at I J;subst J;have⟨z,O⟩:=Z _ (List.Mem.head _);simp only[eval,I,hj,ZdS]at O;have⟨a7,b0,D,R,a1,a3,a6,n⟩:=Lu O;cases R;have a2:D=q:=by
  simp at a1;omega
 subst a2;have a8:D*f+f<=m*f:=by
  rw[<-Zfa];exact Zeq _ a3
 have t:∀i,i<m*f->w.cell? ⟨b,o+i,xw⟩=xk (vs.getD (o+i) undef):=by
  intro i r;have a0:i< P ((K.drop o).take (m*f)):=by rw[X];exact r
  have:=(Q.part X i _ (ZdI a0)).2;rw[ZdV w b (o+i) vs ty (0,0) hh,this]
 have A:∀i y,x[i]?=xk y->y.one=xy/\Rd w h.F y (vs.getD (o+i) undef):=by
  intro i y r;have S:i<m*f:=by rw[<-W];exact(ZdJ.1 r).1
  cases a5 with
  |agg _ _ Y h2 h3=>
   have:=h3 i y r;have hg:((vs.toList.drop o).take (m*f)).toArray.getD i undef=vs.getD (o+i) undef:=by
    simp only[ZdM,Zfn,Zel,if_pos S,Zec,Zf5]
   rw[hg]at this;exact⟨h2 y (ZdQ r),this⟩
 cases H:Y4 c.P T with
 |false=>
  rw[H]at n O;simp at n;have l:D*f<m*f:=by rw[<-W];exact(ZdJ.1 n).1
  refine⟨_,L0 hT H (t _ l),z,by simp only[eval,I,hj,ZdS];exact O,(A _ z n).2.mono λb L=>GH.ext_F L⟩
 |true=>
  rw[H]at n O;simp at n;subst n;refine⟨.agg ((List.range f).map λi=>vs.getD (o+(D*f+i)) undef).toArray,yX hT H _ (by simp[hk]) (λi u r=> ?_),_,by simp only[eval,I,hj,ZdS];exact O,?_⟩;have l:i<f:=by simpa using(ZdJ.1 r).1
  have:vs.getD (o+(D*f+i)) undef=u:=by simpa[l]using r
  rw[<-this,show o+D*f+i=o+(D*f+i)from by omega];exact t _ Z0;have N:P ((x.drop (D*f)).take f)=f:=ZcM;refine .agg _ _ (by simp only[ZeY,Zem,Zhs,N]) (λy hy=> ?_) λi y r=> ?_;have⟨i,r⟩:=Zee (Zff (ZeF hy));exact(A i y r).1;have l:i<f:=by have:=(ZdJ.1 r).1;omega
  rw[Zel,if_pos l,Zec]at r;have:((List.range f).map λi=>vs.getD (o+(D*f+i)) undef).toArray.getD i undef=vs.getD (o+(D*f+i)) undef:=by
   simp[ZdM,l]
  rw[this];exact(A _ y r).2.mono λb L=>GH.ext_F L
 simp at J
def OwnV.elem{o ty x v}(S:OwnV c.P B w h o ty x v){U q y W}(f:X5 x (.int U (q:Nat)) W=xk y):
  ∃l n cap d,∃J:Nat->Value,x=.sl l/\l[q]?=xk y/\o=xk n/\v=.slice (xk ⟨n,0,xw⟩) (P l) cap/\w.heap[n]?=xk (.cells d ty (0,0))/\y.fits (c.P.cellsOf ty)/\q*c.P.cellsOf ty+c.P.cellsOf ty<=d.size/\
   (∀i,i<c.P.cellsOf ty->w.cell? ⟨n,q*c.P.cellsOf ty+i,xw⟩=xk (J i))/\∀i z,y.cells[i]?=xk z->Rd w h.F z (J i):=by
 obtain⟨l,J,rfl,Y,j,k,O,A⟩|⟨_,_,_,_,_,_,rfl,_⟩:=S;case inr=>simp[X5]at f
 simp only[X5]at f;split at f;rw[ZdY,ZdG]at f;have⟨X,f,p⟩:=f;split at p<;>first|(simp at p;subst X)|simp_all
 have t:=(ZdJ.1 f).1;obtain⟨rfl,Z⟩|⟨n,cap,d,rfl,_,K,r,_,D,H⟩:=k.2;omega;have L:q*c.P.cellsOf ty+c.P.cellsOf ty<=P l*c.P.cellsOf ty:=by
  rw[<-Zfa];exact Zeq _ t
 have M:P l*c.P.cellsOf ty<=d.size:=by rw[D];exact Zeq _ r
 refine⟨l,n,cap,d,λi=>d.getD (q*c.P.cellsOf ty+i) undef,rfl,f,by rw[<-O];rfl,rfl,K,j y (ZdQ f),Z0,λi Q=> ?_,λi z T=> ?_⟩;rw[ZdV w n _ d ty (0,0) K];have:q*c.P.cellsOf ty+i<d.size:=Z0;simp_all;have Q:i<c.P.cellsOf ty:=by
  have:=(ZdJ.1 T).1;rw[(j y (ZdQ f)).1]at this;exact this
 have⟨u,N,R⟩:=A (q*c.P.cellsOf ty+i) z (by simp_all[Vr]);have:d.getD (q*c.P.cellsOf ty+i) undef=u:=by
  rw[<-H,Zel,if_pos Z0]at N;have I:d[q*c.P.cellsOf ty+i]?=xk u:=by simpa using N
  simp[ZdM,I]
 simp_all;omega
def ET{x:V}{k}(h:x.fits k):x.pc=x.cells:=by
 rfl
theorem Z2T(Y:RelG c B G s a w h g){T}(R:X2 c.P T=xy){p i j o D k}(u:Ah c g T p i j o D=xk k)(K:∀e∈CM k,∃z,eval s e=xk z)
  {n q} (J:h.bl p (SU i)=xk n) {O} (S:eval s j=xk (.int O (q:Nat))) d:
  Has c B s w h (λp=>a.tmps[p]?) d k (Instr.loadAt T (.pointer (xk ⟨n,q*D+o,xw⟩))):=by
 unfold Ah at u;simp only[ZdG]at u;have⟨⟨ty,e⟩,X,u⟩:=u;split at u;rename_i U;simp at u;subst u;have⟨v,x,_,Z,H⟩:=Y.place X;have⟨z,t⟩:=K _ (List.Mem.head _);have F:∃y,eval s (.idx e j D)=xk y:=by
  unfold JI at t;split at t;simp only[eval]at t⊢;cases I:((eval s e).bind λx=>(eval s j).bind λy=>X5 x y D)with
  |none=>simp_all
  |some y=>simp
  simp only[eval]at t⊢;cases I:((eval s e).bind λx=>(eval s j).bind λy=>X5 x y D)with
  |none=>simp_all
  |some y=>simp
 have⟨y,I⟩:=F;have N:X5 x (.int O q) D=xk y:=by
  simp only[eval,Z,S,ZdS]at I;exact I
 obtain⟨l,n',cap,Q,xs,rfl,W,L,rfl,hh,f,_,r,M⟩:=H.elem N;rw[J]at L;simp at L;subst L;rw[U]at r f;have A:=ET f;exact Ai (c:=c) (B:=B) (sh:=[p]) R (b:=n) (q:=q*D) (o:=o) (vs:=xs) (by rw[A];exact f.2) (by rw[A,f.1];exact r) (λi z t=>by rw[A]at t;exact(M i z t).mono λb J=>GH.ext_F J) I ⟨z,t⟩ _ d;grind
def Z4P(A:RelG c B G s a w h g)(D:holds s (ZE c C)){T x k es}(L:Bu c g C T x=xk (k,es))(I:∀e∈es,∃z,eval s e=xk z)d:
  Has c B s w h (λp=>a.tmps[p]?) d k (Instr.loadAt T (a.eval x)):=by
 unfold Bu at L;split at L;rename_i N;simp at L;obtain⟨k',r,rfl,rfl⟩:=L;unfold Gt at r;split at r;rename_i R f;obtain⟨t,rfl,⟨v,hv,O,⟨b,vs,ty,l,rfl,_⟩⟩,_⟩:=(J0 A D f rfl).resolve_left Z1;rw[O];exact Gu A N r l d;rename_i p o f;have⟨b,l,F⟩:=XE A D f rfl d;grind [Gu];rename_i e o sh f;simp at r;subst r;have⟨y,b,q,vs,U,l,F,H,K,W⟩:=XE A D f rfl d;rw[l];exact Ai N H K W U (I _ (List.Mem.head _)) _ d;rename_i e sh f;simp at r;subst r;have⟨y,X,J⟩:=RV A D f;have⟨z,S⟩:=I _ (List.Mem.head _);have Q:∃u,UP y=xk u:=by
  unfold JI at S;cases M:UP y with
  |none=>grind [eval]
  |some u=>simp
 have⟨u,M⟩:=Q;generalize a.eval x=v at J;cases J with
 |ptr R b o vs l F H K=>
  simp only[UP,ZdH]at M;subst M;exact Ai (c:=c) (B:=B) (sh:=sh) N (x:=.agg R) (b:=b) (q:=o) (o:=0) (vs:=vs) F H K (by simp[eval,X,UP]) ⟨z,S⟩ _ d
 |_=>simp[UP]at M
 rename_i p i j o Z f;have⟨n,q,l,⟨Y,F⟩,H⟩:=XE A D f rfl d;grind [Z2T];rename_i p o j m Z f;have⟨b,q,l,⟨Y,F⟩,H,K⟩:=XE A D f rfl d;grind [Z2S];grind;grind
end
end Vm
namespace Vm
open Go
open Go.RowKit (Below)
section
variable {c:Ctx}{B:Nat}{G:Nat->Prop}{s:St}{a:Act}{w:World}{h:GH}{g:Gam}{C:ZB}
def A0{P:Program}{T}(h:P.cellsOf T≠0):∃i,P.info? T=xk i/\P.cellsOf T=i.size:=by
 unfold Program.cellsOf at h⊢;cases d:P.info? T with
 |none=>grind
 |some i=>simp
def Nl{P T fs}(h:Vl P T=.st fs):∃d,P.underlying T=xk (.struct d)/\(∀j∈d,X2 P j.type=xy)/\fs=d.toList.map λf=>(f.offset,P.cellsOf f.type,Y4 P f.type,XD P f.type):=by
 unfold Vl at h;grind
def EG{P T f x}(k:JP P T f=xk x):
  ∃j d,P.underlying T=xk (.struct j)/\j[f]?=xk d/\X2 P d.type=xy/\x=(d.offset,P.cellsOf d.type,Y4 P d.type,XD P d.type):=by
 unfold JP at k;split at k;rename_i j l;obtain⟨o,p,n,rfl⟩:=Nl l;grind;cases k
def KZ{T f b o x}(d:JP c.P T f=xk x)(k:x.2.1≠0):
  (Instr.fieldAt T (.pointer (xk ⟨b,o,xw⟩)) f).run c.P w=.ok (.pointer (xk ⟨b,o+x.1,xw⟩)) w:=by
 obtain⟨n,l,r,j,_,rfl⟩:=EG d;have⟨i,p,q⟩:=A0 k;simp_all[Instr.fieldAt,Zex,Instr.sureAddr,fieldPlace,U2,Zfr]
def Z4L(L:RelG c B G s a w h g)(I:holds s (ZE c C)){T x f k es}(l:Bp c g C T x f=xk (k,es))(O:∀e∈es,∃z,eval s e=xk z)d:
  Has c B s w h (λp=>a.tmps[p]?) d k (Instr.fieldAt T (a.eval x) f):=by
 unfold Bp at l;simp only[ZdG]at l;have⟨y,J,l⟩:=l;split at l;grind;rename_i K;split at l;rename_i R D;simp at l;obtain⟨rfl,rfl⟩:=l;obtain⟨t,rfl,⟨v,Z,Q,⟨b,vs,ty,A,rfl,_⟩⟩,_⟩:=(J0 L I D rfl).resolve_left Z1;rw[Q];exact⟨_,KZ J K,b,A,Z1⟩;rename_i p q D;simp at l;obtain⟨rfl,rfl⟩:=l;have⟨b,A,F⟩:=XE L I D rfl d;rw[F];exact⟨_,KZ J K,b,A,rfl⟩;rename_i e q Y D;simp at l;obtain⟨rfl,rfl⟩:=l;have⟨z,b,r,vs,W,A,F,H,N,X⟩:=XE L I D rfl d;rw[A];exact⟨_,KZ J K,z,b,r,vs,W,Z1,F,H,N,X⟩;rename_i e Y D;simp at l;obtain⟨rfl,rfl⟩:=l;have⟨u,S,M⟩:=RV L I D;have⟨z,U⟩:=O _ (List.Mem.head _);simp only[eval,S,ZdS]at U;generalize a.eval x=v at M;cases M with
 |ptr R b o vs A F H N=>
  exact⟨_,KZ J K,.agg R,b,o,vs,by simp[eval,S,UP],rfl,A,F,H,N⟩
 |_=>simp[UP]at U
 rename_i p i j q kk D;simp at l;obtain⟨rfl,rfl⟩:=l;have⟨n,r,A,F,H⟩:=XE L I D rfl d;rw[H];exact⟨_,KZ J K,n,r,A,F,Z1⟩;grind
def Ji{P T d}(h:Vl P T=.sl d):P.underlying T=xk (.slice d):=by
 grind [Vl]
def CD{P T d n}(h:Vl P T=.ar n d):P.underlying T=xk (.array n d):=by
 grind [Vl]
def Fr{x j z k}(f:X5 x j k=xk z):∃l n q,x=.sl l/\j=.int n (q:Nat)/\l[q]?=xk z/\P z.cells=k:=by
 unfold X5 at f;split at f;rename_i l n i;split at f;rename_i o;obtain⟨q,rfl⟩:=ZdX o;rw[ZdY,ZdG]at f;have⟨r,p,d⟩:=f;split at d<;>first|(simp at d;subst r)|simp_all
 exact⟨l,n,q,rfl,rfl,p,by assumption⟩;grind;grind
def Rd.int_eq{G' d n v}(h:Rd w G' (.int d n) v):v=.int d n:=by cases h;rfl
def ME{T d}(j:c.P.underlying T=xk (.slice d))(f:X2 c.P d=xy){b o len cap p q}(l:q<len):
  (Instr.indexAt T (.slice (xk ⟨b,o,xw⟩) len cap) (.int p q)).run c.P w=.ok (.pointer (xk ⟨b,o+q*c.P.cellsOf d,xw⟩)) w:=by
 have⟨r,i,u,k,n,_⟩:=VX f;have t:(0:Int)<=q/\(q:Int)<len:=Z0;simp[Instr.indexAt,asIntOf,Zex j,l,U2 k,n,Zfr]
def Z4N(S:RelG c B G s a w h g)(U:holds s (ZE c C)){T x i k es}(r:Bs c g C T x i=xk (k,es))(O:∀e∈es,∃z,eval s e=xk z)d:
  Has c B s w h (λp=>a.tmps[p]?) d k (Instr.indexAt T (a.eval x) (a.eval i)):=by
 unfold Bs at r;split at r;rename_i A hT;have L:=Ji hT;simp only[ZdG]at r;have⟨⟨j,sj⟩,hj,r⟩:=r;have⟨y,hy,M⟩:=WD S U hj;have own:∀ {p} {pi:Option Nat},Yk g C x=RX p pi->zt c g p pi A j=xk (k,es)->Has c B s w h (λp=>a.tmps[p]?) d k (Instr.indexAt T (a.eval x) (a.eval i)):=by
  intro p pi J F;unfold zt at F;simp only[ZdG]at F;have⟨⟨ty,e⟩,ho,F⟩:=F;split at F;rename_i R;have⟨R,f⟩:=R;simp at F;obtain⟨rfl,rfl⟩:=F;have a5:=XE S U J (by cases pi<;>rfl) 0;have⟨xv,b5,a4⟩:=S.ownAt ho a5;have⟨z,H⟩:=O _ (List.Mem.head _);simp only[eval,b5,hy,ZdS]at H;have b6:=H;obtain⟨l,ki,q,rfl,rfl,K,_⟩:=Fr H;have⟨l',n,cap,c1,xs,b3,_,a7,hv,_⟩:=a4.elem b6;cases b3;rw[hv,M.int_eq];refine⟨_,ME L f (ZdJ.1 K).1,n,q,?_,⟨ki,hy⟩,by rw[Zev,Zft]⟩;cases pi<;>exact a7;simp at F
 split at r;rename_i p J;exact own (pi:=xw) J r;rename_i p q J;exact own (pi:=xk q) J r;rename_i e sh J;split at r;rename_i f;simp at r;obtain⟨rfl,rfl⟩:=r;have⟨u,hu,Q⟩:=RV S U J;have⟨z,H⟩:=O _ (List.Mem.head _);have a0:=H;simp only[eval,hu,hy,ZdS]at H;obtain⟨l,ki,q,rfl,rfl,K,b7⟩:=Fr H;rw[M.int_eq];generalize a.eval x=v at Q;cases Q with
 |nil a' cap hc=>simp at K
 |sl _ b o cap kk vs h1 h2 h3 h4 h5 h6=>
  have D:=h4 z (ZdQ K);have b2:kk=c.P.cellsOf A:=by rw[<-D.1,b7]
  subst b2;have a2:=(ZdJ.1 K).1;have b4:q*c.P.cellsOf A+c.P.cellsOf A<=P l*c.P.cellsOf A:=by
   rw[<-Zfa];exact Zeq _ a2
  have Z:=ET D;refine⟨_,ME L f a2,z,b,o+q*c.P.cellsOf A,λi=>vs (q*c.P.cellsOf A+i),a0,by rw[Zft],h3,by rw[Z];exact D.2,λi I=> ?_,λi u I=> ?_⟩;rw[Z,D.1]at I;rw[Zf1];exact h5 _ Z0;rw[Z]at I;have b0:i<c.P.cellsOf A:=by rw[<-D.1];exact(ZdJ.1 I).1
  exact h6 _ u (by rw[Vr h4 K i b0];exact I)
 simp at r;simp at r;rename_i n A hT;have L:=CD hT;split at r;simp at r;rename_i f;simp at f;simp only[ZdG]at r;have⟨⟨j,sj⟩,hj,r⟩:=r;have⟨y,hy,M⟩:=WD S U hj;have fin:∀ {p o b},a.eval x=.pointer (xk ⟨b,o,xw⟩)->h.bl p 0=xk b->xk (TK.pa p o j n (c.P.cellsOf A),[E.ai (.c (.agg (List.replicate n (.bool xy)))) j n 1 xh])=xk (k,es)->Has c B s w h (λp=>a.tmps[p]?) d k (Instr.indexAt T (a.eval x) (a.eval i)):=by
  intro p o b Y hb heq;simp at heq;obtain⟨rfl,rfl⟩:=heq;have⟨z,H⟩:=O _ (List.Mem.head _);simp only[eval,hy,ZdS]at H;obtain⟨cs,ki,q,_,rfl,hq,_⟩:=Lu H;rw[Y,M.int_eq];have⟨dd,info,hd,I,hs,_⟩:=VX f;refine⟨_,?_,b,q,hb,⟨ki,hy⟩,hq,rfl⟩;simp[Instr.indexAt,asIntOf,Zex L,hq,U2 I,hs,Zfr,Instr.sureAddr]
 split at r;rename_i cs J;obtain⟨t,rfl,⟨v,hv,Y,⟨b,vs,ty,h1,rfl,_⟩⟩,_⟩:=(J0 S U J rfl).resolve_left (by rintro(⟨e,h⟩|h)<;>cases h);exact fin Y h1 r;rename_i p o J;have⟨b,h1,h2⟩:=XE S U J rfl d;exact fin h2 h1 r;rename_i e o sh J;simp at r;obtain⟨rfl,rfl⟩:=r;have⟨u,b,q0,vs,he,hv,a1,a3,X,Q⟩:=XE S U J rfl d;have⟨z,H⟩:=O _ (List.Mem.head _);have a0:=H;simp only[eval,he,hy,ZdS,ZdG]at H;have⟨cs,a9,H⟩:=H;obtain⟨b4,rfl⟩:=LZ a9;obtain⟨c0,ki,q,a8,rfl,hq,b9,a6⟩:=Lu H;cases a8;simp at a6;rw[hv,M.int_eq];have⟨dd,info,hd,I,hs,_⟩:=VX f;have b8:q*c.P.cellsOf A+c.P.cellsOf A<=n*c.P.cellsOf A:=by
  rw[<-Zfa];exact Zeq _ hq
 have W:∀i x,z.pc[i]?=xk x->i<c.P.cellsOf A/\u.pc[o+q*c.P.cellsOf A+i]?=xk x:=by
  intro i x N;rw[<-a6]at N;simp only[V.pc,Zel]at N;split at N;rename_i b1;rw[Zec,Zel,if_pos Z0,Zec]at N;exact⟨b1,by rw[<-N];congr 1;omega⟩;cases N
 refine⟨_,?_,z,b,q0+(o+q*c.P.cellsOf A),λi=>vs (o+q*c.P.cellsOf A+i),a0,rfl,a1,?_,?_,?_⟩;simp[Instr.indexAt,asIntOf,Zex L,hq,U2 I,hs,Zfr,Instr.sureAddr,Zf1];intro x N;have⟨i,I⟩:=Zee N;exact a3 x (ZdQ (W i x I).2);intro i I;have:=W i _ (ZdI I);rw[Zf1];exact X _ (ZdJ.1 this.2).1;intro i x N;exact Q _ x (W i x N).2;simp at r;simp at r
theorem A5{x z}(h:YQ x=xk z):z.one=xy:=(TU h).2
def GU{j x k v z}(h:UG j x k v=xk z):∃id l vs d f,x=.mp id l vs/\z=.mp id d f:=by
 unfold UG at h;grind
theorem LR:∀e x,e.sure=xy->eval s e=xk x->x.one=xy
 |.c v,x,h,j=>by simp only[eval,ZdH]at j;subst j;exact h
 | .m t i,x,_,j=>by
   simp only[eval]at j;split at j;rw[ZdG]at j;have⟨y,_,f⟩:=j;exact A5 f;grind
 | .bin op a b,x,_,j=>by
   simp only[eval,ZdG]at j;have⟨y,_,z,_,f⟩:=j;cases y<;>cases z<;>cases op<;>simp only[Xe]at f<;>(try split at f)<;>(try simp only[ZdH]at f)<;>(try subst f)<;>first|rfl|simp at f
 | .eqv n a b,x,_,j=>by
   simp only[eval,ZdG]at j;have⟨y,_,z,_,f⟩:=j;cases y<;>cases z<;>simp only[Sx]at f<;>(try simp only[ZdH]at f)<;>(try subst f)<;>first|rfl|simp at f
 | .un op a,x,_,j=>by
   simp only[eval,ZdG]at j;have⟨y,_,f⟩:=j;cases y<;>cases op<;>simp only[Se]at f<;>(try simp only[ZdH]at f)<;>(try subst f)<;>first|rfl|simp at f
 | .conv k a,x,_,j=>by
   simp only[eval,ZdG]at j;have⟨y,_,f⟩:=j;cases y<;>simp only[Qu]at f<;>(try simp only[ZdH]at f)<;>(try subst f)<;>first|rfl|simp at f
 | .len a,x,_,j=>by
   simp only[eval,ZdG]at j;have⟨y,_,f⟩:=j;cases y<;>simp only[RL]at f<;>(try simp only[ZdH]at f)<;>(try subst f)<;>first|rfl|simp at f
 | .mn a b,x,_,j=>by
   simp only[eval,ZdG]at j;have⟨y,_,z,_,f⟩:=j;cases y<;>cases z<;>simp only[RR]at f<;>(try simp only[ZdH]at f)<;>(try subst f)<;>first|rfl|simp at f
 | .mx a b,x,_,j=>by
   simp only[eval,ZdG]at j;have⟨y,_,z,_,f⟩:=j;cases y<;>cases z<;>simp only[RQ]at f<;>(try simp only[ZdH]at f)<;>(try subst f)<;>first|rfl|simp at f
 | .mput A a k v,x,_,j=>by
   simp only[eval,ZdG]at j;have⟨y,_,z,_,u,_,f⟩:=j;obtain⟨_,_,_,_,_,_,rfl⟩:=GU f;rfl
 | .mlen a,x,_,j=>by
   simp only[eval,ZdG]at j;have⟨y,_,f⟩:=j;cases y<;>simp only[SJ]at f<;>(try simp only[ZdH]at f)<;>(try subst f)<;>first|rfl|simp at f
 | .mclr a,x,_,j=>by
   simp only[eval,ZdG]at j;have⟨y,_,f⟩:=j;cases y<;>simp only[Kc]at f<;>(try simp only[ZdH]at f)<;>(try subst f)<;>first|rfl|simp at f
 | .fld a o,x,_,j=>by
   simp only[eval,ZdG,ZY]at j;grind [A5]
 | .slc a p r k,x,_,j=>by
   simp only[eval,ZdG]at j;have⟨y,_,z,_,u,_,f⟩:=j;unfold R1 at f;split at f;split at f;simp only[ZdH]at f;subst f;rfl;grind;grind
 | .slcl a p k,x,_,j=>by
   simp only[eval,ZdG]at j;have⟨y,_,z,_,f⟩:=j;unfold Q8 at f;split at f;split at f;simp only[ZdH]at f;subst f;rfl;grind;grind
 | .app a b k,x,_,j=>by
   simp only[eval,ZdG]at j;have⟨y,_,z,_,f⟩:=j;unfold Rg at f;split at f;split at f;simp only[ZdH]at f;subst f;rfl;grind;grind
 | .upd a i o b,x,_,j=>by
   simp only[eval,ZdG]at j;have⟨y,_,z,_,u,_,f⟩:=j;unfold R6 at f;split at f;split at f;rw[ZdG]at f;have⟨q,_,f⟩:=f;split at f;simp only[ZdH]at f;subst f;rfl;grind;grind;grind
 | .mk z n,x,_,j=>by
   simp only[eval,ZdG]at j;have⟨y,_,f⟩:=j;unfold Ke at f;split at f;split at f;simp only[ZdH]at f;subst f;rfl;grind;grind
 | .lit l,x,_,j=>by
   simp only[eval,ZdK]at j;have⟨y,_,f⟩:=j;subst f;rfl
 | .one a,x,_,j=>by
   grind [eval,Option.bind_eq_some_iff,A5]
 | .ite d a b,x,h,j=>by
   simp only[E.sure,ZdL]at h;simp only[eval,ZdG]at j;have⟨y,_,f⟩:=j;unfold QM at f;split at f;exact LR a x h.1 f;exact LR b x h.2 f;grind
 |.s t,x,h,j=>Zd1
 |.mm t i n,x,h,j=>Zd1
 |.ext a i,x,h,j=>Zd1
 |.idx a i k,x,h,j=>Zd1
 |.flds a o n,x,h,j=>Zd1
 |.ai a i n k ag,x,h,j=>Zd1
 |.aput a i n k b,x,h,j=>Zd1
 |.ag l,x,h,j=>Zd1
 |.star a,x,h,j=>Zd1
 |.isag a,x,h,j=>Zd1
 |.sz a n,x,h,j=>Zd1
 |.fl a,x,h,j=>Zd1
 |.fls a,x,h,j=>Zd1
end
end Vm
namespace Vm
open Go
open Go.RowKit (Below)
section
variable {c:Ctx}{B:Nat}{G:Nat->Prop}{s:St}{a:Act}{w:World}{h:GH}{g:Gam}{C:ZB}
theorem Hi{e x}(hx:eval s (yf e)=xk x):eval s e=xk x/\x.one=xy:=by
 unfold yf at hx;split at hx;grind [LR];simp only[eval,ZdG]at hx;have⟨y,j,d⟩:=hx;obtain⟨rfl,f⟩:=TU d;simp_all
theorem Nk{x z n}(d:Vk x n=xk z):x=z/\P z.cells=n/\∀l,z≠.tup l:=by
 unfold Vk at d;split at d
 .rename_i f;cases x<;>simp at d<;>first|(subst d;exact⟨rfl,f,Z1⟩)|(simp at d;done)
 grind
theorem Hj{x:V}(h:x.one=xy):∀l,x≠.tup l:=by
 grind [V.one]
theorem Ti{x:V}(h:x.one=xy):x.cells=[x]:=by
 cases x<;>first|rfl|simp[V.one]at h
theorem Z7x{e n x}(hx:eval s (CB e n)=xk x):eval s e=xk x/\P x.cells=n/\∀l,x≠.tup l:=by
 unfold CB at hx;split at hx
 .rename_i j;refine⟨hx,?_⟩;cases e<;>simp only[E.sized,Zet,ZdL]at j<;>first|(cases j;done)|skip
  grind [eval,Option.some.injEq,V.cells];subst j;simp only[eval,ZdG]at hx;have⟨y,_,k⟩:=hx;obtain⟨o,rfl⟩:=LZ k;grind [V.cells];rename_i l;have⟨F,d⟩:=j;simp only[eval,ZdK]at hx;obtain⟨D,p,rfl⟩:=hx;have⟨o,r⟩:=Uw p;have u:∀y∈D,y.one=xy:=by
   intro y k;have⟨i,t⟩:=Zee k;have f:i<P l:=by have:=(ZdJ.1 t).1;omega
   have⟨z,A,q⟩:=r i l[i] (ZdI f);rw[t]at A;cases A;exact LR _ _ (ZdT.1 d _ (Ze2 f)) q
  simp_all[Tt,V.cells,VT];grind [eval,Option.bind_eq_some_iff,Nk]
 simp only[eval,ZdG]at hx;have⟨y,k,o⟩:=hx;obtain⟨rfl,r⟩:=Nk o;simp_all
theorem qt{ag n e x}(hx:eval s (WL ag n e)=xk x):eval s e=xk x/\(∀l,x≠.tup l)/\(ag=xy->P x.cells=n)/\(ag=xh->x.one=xy):=by
 grind [WL,Z7x,Hi,Hj]
def C1{P T}(n:(P.underlying T).isSome=xy)(j:P.cellsOf T≠0){vs o}(t:o+P.cellsOf T<=vs.size):
  (part T vs o).run P w=.ok (if Y4 P T then .agg (vs.extract o (o+P.cellsOf T))else vs.getD o undef) w:=by
 have⟨i,q,y⟩:=A0 j;have f:X2 P T=xy:=by simp[X2,n,q]
 have⟨d,z,x,r,u,k⟩:=VX f;have l:o<vs.size:=Z0;cases p:Y4 P T with
 |true=>simp_all[part,U2]
 |false=>simp_all[part,ZdM]
def Rd.part{G'}{cs:List V}{vs:Array Value}(l:vs.size=P cs)(h2:∀c∈cs,c.one=xy)(p:∀i c,cs[i]?=xk c->Rd w G' c (vs.getD i undef)){o n}(j:o+n<=P cs):
  Rd w G' (.agg ((cs.drop o).take n)) (.agg (vs.extract o (o+n))):=by
 refine .agg _ _ ZcM (λy k=>h2 y (Zff (ZeF k))) λi y d=> ?_;rw[Zel]at d;split at d;rename_i f;rw[Zec]at d;have q:(vs.extract o (o+n)).getD i undef=vs.getD (o+i) undef:=by
  simp only[ZdM,ZhF];rw[if_pos Z0]
 simp_all;grind
def G8{x z}(d:RF x=xk z):∃f,x=.agg f/\z=.agg f:=by
 unfold RF at d;split at d;simp at d;exact⟨_,rfl,d.symm⟩;grind
def Z4M(hr:RelG c B G s a w h g)(S:holds s (ZE c C)){T x f k es}(t:Bq c g C T x f=xk (k,es))(L:∀e∈es,∃z,eval s e=xk z)d:
  Has c B s w h (λp=>a.tmps[p]?) d k (Instr.field T (a.eval x) f):=by
 unfold Bq at t;simp only[ZdG]at t;have⟨y,X,t⟩:=t;split at t;grind;rename_i M;simp only[ZdK,ZdW]at t;obtain⟨⟨e,sh⟩,W,rfl,rfl⟩:=t;obtain⟨fs,j,hu,Y,H,rfl⟩:=EG X;simp only at M;have⟨u,F,A⟩:=WD hr S W;have⟨z,l⟩:=L _ (List.Mem.head _);simp only at l;generalize a.eval x=v at A;have⟨i,hi,hs⟩:=A0 M;have D:(c.P.underlying j.type).isSome=xy:=by simp only[X2,ZdL]at H;exact H.1
 cases n:Y4 c.P j.type with
 |true=>
  rw[n]at l;simp only[Zes,eval,F,ZdS,ZdG]at l;have⟨q,N,l⟩:=l;obtain⟨O,rfl,rfl⟩:=G8 N;obtain⟨r,rfl⟩:=LZ l;cases A with
  |agg _ vs J Q K=>
   refine⟨.agg (vs.extract j.offset (j.offset+c.P.cellsOf j.type)),?_,.agg ((O.drop j.offset).take (c.P.cellsOf j.type)),?_,Rd.part J Q K r⟩;have:=C1 (w:=w) (P:=c.P) D M (vs:=vs) (o:=j.offset) (by rw[J];exact r);simp_all[Instr.field,Zex,asAgg];simp only[n,Zes,eval,F,ZdS,RF,Ua];rw[if_pos r];rfl
 |false=>
  rw[n]at l;simp only[Ze1,Zew,eval,F,ZdS,ZdG]at l;have⟨q,N,l⟩:=l;obtain⟨O,rfl,rfl⟩:=G8 N;have I:=jz l;cases A with
  |agg _ vs J Q K=>
   have a0:j.offset<vs.size:=by rw[J];exact(ZdJ.1 I).1
   refine⟨vs.getD j.offset undef,?_,z,?_,K _ _ I⟩;have⟨d',i',U,Z,a1,R⟩:=VX (P:=c.P) (T:=j.type) Z0;simp_all[Instr.field,Zex,asAgg,part,ZdM];simp_all[Ze1,Zew,eval,ZdS,RF]
def Z4O(U:RelG c B G s a w h g)(Q:holds s (ZE c C)){T x i k es}(F:Br c g C T x i=xk (k,es))(J:∀e∈es,∃z,eval s e=xk z)d:
  Has c B s w h (λp=>a.tmps[p]?) d k (Instr.index T (a.eval x) (a.eval i)):=by
 unfold Br at F;split at F;rename_i n r Y;have A:=CD Y;split at F;grind;rename_i l;simp at l;simp only[ZdG,ZdK,ZdW]at F;obtain⟨⟨e,sh⟩,Z,⟨j,sj⟩,hj,rfl,rfl⟩:=F;have⟨u,hu,H⟩:=WD U Q Z;have⟨y,hy,L⟩:=WD U Q hj;have⟨z,M⟩:=J _ (List.Mem.head _);have I:=M;simp only[eval,hu,hy,ZdS]at M;obtain⟨cs,ki,q,rfl,rfl,K,S,f⟩:=Lu M;rw[L.int_eq];generalize a.eval x=v at H;have⟨dd,info,hd,R,W,t⟩:=VX l;have a0:q*c.P.cellsOf r+c.P.cellsOf r<=n*c.P.cellsOf r:=by
  rw[<-Zfa];exact Zeq _ K
 cases H with
 |agg _ vs N X O=>
  cases o:Y4 c.P r with
  |false=>
   rw[o]at f I;simp at f;have D:q*c.P.cellsOf r<vs.size:=by rw[N];exact(ZdJ.1 f).1
   rw[W]at D f;refine⟨vs.getD (q*info.size) undef,?_,z,Z0,O _ _ f⟩;simp[Instr.index,asIntOf,Zex A,K,U2 R,part,t,o,D,ZdM]
  |true=>
   rw[o]at f I;simp at f;subst f;refine⟨.agg (vs.extract (q*c.P.cellsOf r) (q*c.P.cellsOf r+c.P.cellsOf r)),?_,_,Z0,Rd.part N X O Z0⟩;rw[W];simp[Instr.index,asIntOf,Zex A,K,U2 R,part,t,o]
 grind
def N0{k l}(d:Xr k l=xy):∀x∈l,P x.cells=k:=λx f=>by
 have:=ZdT.1 d x f;simp_all
def Z0A{P:Program}{T d}(h:P.underlying T=xk (.slice d)):P.elem T=d:=by
 simp[Program.elem,h]
def Rd.sliced{G' l o len cap}(hx:Rd w G' (.sl l) (.slice o len cap)){k p q}(K:Xr k l=xy)(L:p<=q)(D:q<=P l):
  q<=cap/\len=P l/\Rd w G' (.sl ((l.take q).drop p)) (sliced o p q cap k):=by
 cases hx with
 |nil _ _ J=>
  simp at D;subst D;have A:p=0:=Z0;subst A;exact⟨ZeS _,rfl,by simp;exact .nil _ _ J⟩
 |sl _ b o _ d vs M N F t H I=>
  refine⟨Z0,rfl,?_⟩;unfold Go.sliced;by_cases r:p=q;subst r;have:(l.take p).drop p=[]:=by
   rw[ZgI];simp;omega
  rw[this,ZfG];exact .nil _ _ Z0;have z:cap≠p:=Z0;have y:∃x,l[p]?=xk x:=⟨_,ZdI Z0⟩;have⟨x,hx⟩:=y;have u:d=k:=by rw[<-(t x (ZdQ hx)).1,N0 K x (ZdQ hx)]
  subst u;have f:P ((l.take q).drop p)=q-p:=ZcM;simp only[if_neg z,Ze6,Zfr];rw[<-f];have j:Vm.flat ((l.take q).drop p)=((Vm.flat l).take (q*d)).drop (p*d):=by
   rw[Z0T (k:=d) (λx hx=>t x (ZeF hx)),Z0W t]
  refine .sl _ b (o+p*d) (cap-p) d (λi=>vs (p*d+i)) Z0 Z0 F (λx hx=>t x (ZeF (Zff hx))) (λi n=> ?_) λi c n=> ?_;rw[Zf1];refine H _ ?_;have:(q-p)*d+p*d<=P l*d:=by rw[<-Nat.add_mul];exact Zeq _ Z0
  rw[f]at n;omega;rw[j,Zec,Zel]at n;split at n;exact I _ _ n;simp at n
def Z6t{T}(n:c.P.underlying T=xk (.slice (c.P.elem T))){v j f l d k}:
  Has c B s w h l d k (Instr.sliceAt T v j f xw)=Has c B s w h l d k (Instr.slice T v j f xw):=by
 simp_all[Has,run_sliceAt_slice]
theorem yY{P T}(d:X2 P T=xy)w:(Go.sizeOf T).run P w=.ok (P.cellsOf T) w:=by
 grind [VX,U2]
def Z75{k x y z u}(d:R1 k x y z=xk u):∃l j n p q,x=.sl l/\y=.int j (p:Nat)/\z=.int n (q:Nat)/\p<=q/\q<=P l/\Xr k l=xy/\u=.sl ((l.take q).drop p):=by
 unfold R1 at d;split at d;rename_i l j p n q;split at d;rename_i r;have⟨f,o,t,A⟩:=r;obtain⟨p,rfl⟩:=ZdX f;obtain⟨q,rfl⟩:=ZdX (Int.le_trans f o);grind;grind;grind
def Z76{k x y u}(d:Q8 k x y=xk u):∃l f p,x=.sl l/\y=.int f (p:Nat)/\p<=P l/\Xr k l=xy/\u=.sl (l.drop p):=by
 unfold Q8 at d;split at d;rename_i l f p;split at d;rename_i o;have⟨j,q,n⟩:=o;obtain⟨p,rfl⟩:=ZdX j;simp at d;exact⟨l,f,p,rfl,rfl,Z0,n,d.symm⟩;grind;grind
def Rd.sl_eq{G' l v}(hx:Rd w G' (.sl l) v):∃o len cap,v=.slice o len cap:=by
 cases hx<;>exact⟨_,_,_,rfl⟩
def Z50(Q:RelG c B G s a w h g)(O:holds s (ZE c C)){T x R X k es}(M:BE c g C T x R X=xk (k,es))(W:∀e∈es,∃z,eval s e=xk z)d:
  Has c B s w h (λp=>a.tmps[p]?) d k (Instr.sliceAt T (a.eval x) (R.map a.eval) (X.map a.eval) xw):=by
 unfold BE at M;split at M;rename_i el hT;have K:=Ji hT;have U:=Z0A K;have S:c.P.underlying T=xk (.slice (c.P.elem T)):=by rw[U];exact K
 split at M;rename_i a4;simp only[ZdG,ZdK,ZdW]at M;obtain⟨⟨e,sh⟩,he,l,D,e',A,rfl,rfl⟩:=M;have⟨u,hu,n⟩:=WD Q O he;have⟨z,y⟩:=W _ (List.Mem.head _);rw[Z6t S];generalize a.eval x=v at n;cases X with
 |some hh=>
  simp only[AV,ZdK]at A;obtain⟨⟨f,sf⟩,hf,rfl⟩:=A;have⟨y2,a1,N⟩:=WD Q O hf;have J:=y;simp only[eval,hu,a1,ZdS,ZdG]at y;have⟨y1,r,y⟩:=y;obtain⟨ll,ka,kb,p,q,rfl,rfl,rfl,Z,hq,I,rfl⟩:=Z75 y;obtain⟨o,len,cap,rfl⟩:=n.sl_eq;have⟨a0,L,j⟩:=n.sliced I Z hq;refine⟨_,?_,_,J,j⟩;cases R with
  |some a2=>
   simp only[Kq,ZdK]at D;obtain⟨⟨f1,a3⟩,F,rfl⟩:=D;have⟨y3,t,H⟩:=WD Q O F;rw[r]at t;cases t;simp;rw[N.int_eq,H.int_eq];simp_all[run_slice_lh,yY,Result.andThen]
  |none=>
   simp only[Kq,ZdH]at D;subst D;simp only[eval,ZdH,V.int.injEq]at r;have Y:p=0:=Z0;subst Y;simp;rw[N.int_eq];grind [run_slice_h,yY,Result.andThen]
 |none=>
  simp only[AV,ZdH]at A;subst A;have J:=y;simp only[eval,hu,ZdS,ZdG]at y;have⟨y1,r,y⟩:=y;obtain⟨ll,ka,p,rfl,rfl,hq,I,rfl⟩:=Z76 y;obtain⟨o,len,cap,rfl⟩:=n.sl_eq;have⟨a0,L,j⟩:=n.sliced I hq (ZdN _);rw[Zfc]at j;refine⟨_,?_,_,J,j⟩;cases R with
  |some a2=>
   simp only[Kq,ZdK]at D;obtain⟨⟨f1,a3⟩,F,rfl⟩:=D;have⟨y3,t,H⟩:=WD Q O F;rw[r]at t;cases t;simp;rw[H.int_eq];simp_all[run_slice_l,yY,Result.andThen]
  |none=>
   simp only[Kq,ZdH]at D;subst D;simp only[eval,ZdH,V.int.injEq]at r;grind [run_slice_all,yY,Result.andThen]
 grind;grind
end
end Vm
namespace Vm
open Go
open Go.RowKit (Below)
def GH.give(h:GH)(d i n:Nat):GH:= {F:=h.F,bl:=λt j=>if t=d then(if j=i then xk n else xw)else h.bl t j,K:=h.K}
def GH.froz(h:GH)(n:Nat):GH:= {F:=λb=>h.F b\/b=n,bl:=h.bl,K:=h.K}
section
variable {c:Ctx}{B:Nat}{G:Nat->Prop}{s:St}{a:Act}{w w':World}{h:GH}{g:Gam}{C:ZB}
def Qo(d:Ok B G w h)(f:w.grownBy w' xw):Below B w w':=(Zei B w).grown f d.base λk j=>by cases j
def qq(k:Ok B G w h)(p:w.grownBy w' xw)d i{n}(H:U (R w)<=n)(r:n<U (R w')):
  Ok B G w' (h.give d i n)/\Step B [d] [d] [] w w' h (h.give d i n):=by
 have o:=p.size
 refine⟨⟨Zef k.base o,λb f=>ZdU (k.f_lt b f) o,k.f_or,k.g_F,λt j b f=> ?_,λt j u q b f l=> ?_,λb f=>ZdU (k.k_lt b f) o,λt j b f x=> ?_,k.k_F⟩,
  Qo k p,λb f _=>p.block b f Z1,λb f=>f,λt I _=> ?_,λt I=> ?_,λ_ _ _ _ F=>(by simp at F),rfl⟩
 simp only[GH.give]at f;split at f;split at f;simp at f;subst f;exact⟨Zef k.base H,r,λD=>by have:=k.f_lt _ D;omega⟩;cases f;have⟨y,z,A⟩:=k.b_lt t j b f;exact⟨y,ZdU z o,A⟩
 .simp only[GH.give]at f l;split at f<;>split at l;simp_all
  .split at f<;>first|(cases f;done)|skip
   simp at f;have:=(k.b_lt u q b l).2.1;omega
  .split at l<;>first|(cases l;done)|skip
   simp at l;have:=(k.b_lt t j b f).2.1;omega
  exact k.inj t j u q b f l
 simp only[GH.give]at f;split at f;split at f;simp at f;subst f;have:=k.k_lt _ x;omega;cases f;exact k.k_bl t j b f x;simp_all[GH.give];simp_all[GH.give]
def Z7w(d:Ok B G w h)(o:w.grownBy w' xw)ps rb{n}(y:U (R w)<=n)(z:n<U (R w')):
  Ok B G w' (h.froz n)/\Step B ps rb [] w w' h (h.froz n):=by
 have k:=o.size
 refine⟨⟨Zef d.base k,λb f=> ?_,λb f=> ?_,λb f=>.inl (d.g_F b f),λt j b f=> ?_,d.inj,λb f=>ZdU (d.k_lt b f) k,d.k_bl,λb f=> ?_⟩,
  Qo d o,λb f _=>o.block b f Z1,λb f=>.inl f,λt A _=>rfl,λt A=>rfl,λ_ _ _ _ x=>(by simp at x),rfl⟩
 obtain f|rfl:=f;exact ZdU (d.f_lt b f) k;omega;obtain f|rfl:=f;exact d.f_or b f;exact .inr (Zef d.base y);have⟨p,q,r⟩:=d.b_lt t j b f;refine⟨p,ZdU q k,λl=> ?_⟩;obtain l|rfl:=l;exact r l;omega;obtain f|rfl:=f;exact d.k_F b f;exact .inr λu=>by have:=d.k_lt _ u;omega
def C6(k:Ok B G w h)(j:w.grownBy w' xw){G'}(d:∀b,G' b->b<U (R w)):Same G' w w':=λb f=>j.block b (d b f) Z1
def Z0I(d:Ok B G w h)sh:∀b,h.ext sh b->b<U (R w):=by
 intro b f;obtain f|⟨p,_,i,j⟩:=f;exact d.f_lt b f;exact(d.b_lt p (i+1) b j).2.1
def Ao{α β:Type}{f}:∀ {l:List α} {r:List β},l.mapM f=xk r->P r=P l/\∀(i:Nat) v,l[i]?=xk v->∃x,r[i]?=xk x/\f v=xk x
 | [],r,d=>by
   simp at d;subst d;exact⟨rfl,λi v j=>by simp at j⟩
 |y::l,r,d=>by
  rw[Zg7]at d;simp only[Option.bind_eq_bind,ZdG,Option.pure_def,ZdH]at d;obtain⟨x,p,q,k,rfl⟩:=d;have⟨n,o⟩:=Ao k;refine⟨by simp[n],λi v j=> ?_⟩;cases i with
  |zero=>simp at j;subst j;exact⟨x,Z1,p⟩
  |succ i=>simpa using o i v ZdF
def CW{P T f}(d:zeroCells P T=xk f):∃i z,P.info? T=xk i/\i.zero=xk z/\z.cells.size=xq f/\∀(j:Nat) v,z.cells[j]?=xk v->∃x,f[j]?=xk x/\WW v=xk x:=by
 unfold zeroCells at d;simp only[ZdG]at d;have⟨z,⟨i,p,l⟩,k⟩:=d;have⟨n,o⟩:=Ao k;simp_all
def yZ{P T i z}(d:P.info? T=xk i)(f:i.zero=xk z)w:(zeroValue T).run P w=.ok z w:=by
 simp[zeroValue,typeInfo,d,f]
def C0{P T}v w:(newVar T v).run P w=.ok ⟨U (R w),0,xw⟩ (w.alloc (.cells v.cells T)):=by
 rfl
def Z8l(x:V):CK:=match x with|.sl _=>CK.nil|_=>.fz
def Z8q{P o v x}(d:WW v=xk x):RelC P B s w h o (Z8l x) (.c x) v:=by
 unfold WW at d;split at d<;>first
  |(simp at d;subst d;first|exact⟨_,rfl,rfl,.int _ _⟩|exact⟨_,rfl,rfl,.bool _⟩|exact⟨_,rfl,rfl,.str _⟩|exact⟨rfl,rfl⟩|exact⟨_,rfl,rfl,.nomp⟩|exact⟨_,rfl,rfl,.nul0⟩|exact⟨_,rfl,rfl,.nul1⟩)
  | (split at d<;>first
    | (rename_i f
       simp at d;subst d;rw[ZeP f.1,ZeP f.2];exact⟨_,rfl,rfl,.fn _⟩)
    |simp at d)
  |simp at d
def Z4F(r:Ok B G w h){T k es}(l:Bj c T=xk (k,es))K d:
  ∃v w',(Instr.alloc T xy (.tuple #[])).run c.P w=.ok v w'/\PRes c B G s w h K d k v w':=by
 unfold Bj at l;simp only[ZdG]at l;have⟨N,J,l⟩:=l;split at l;grind;simp at l;obtain⟨rfl,rfl⟩:=l;have⟨i,z,I,y,u,f⟩:=CW J;have H:=Zf6 w (.cells z.cells T) xw;have⟨p,t⟩:=qq r H d 0 (n:=U (R w)) (ZdN _) Z1;refine⟨.pointer (xk ⟨U (R w),0,xw⟩),_,?_,_,t,p,?_⟩;simp[Instr.alloc,yZ I y,C0];refine⟨U (R w),z.cells,T,by simp[GH.give],rfl,Ze9 w _,ZcL,λj L A=> ?_⟩;simp at A;obtain⟨x,D,rfl⟩:=A;have o:j<z.cells.size:=by rw[u];exact(ZdJ.1 D).1
 have⟨M,q,F⟩:=f j z.cells[j] (Zeg o);rw[D]at q;cases q;have:z.cells.getD j undef=z.cells[j]:=by simp[o]
 rw[this];exact Z8q F
def Z4J(O:RelG c B G s a w h g)(hC:holds s (ZE c C)){T x k es}(l:Bn c g C T x=xk (k,es))(t:∀e∈es,∃z,eval s e=xk z)tm d:
  ∃v w',(Instr.box T (a.eval x)).run c.P w=.ok v w'/\PRes c B G s w h tm d k v w':=by
 unfold Bn at l;split at l;rename_i e0 hk;split at l;rename_i a0;have⟨y,hy,J⟩:=RV O hC hk;have Z:=Zf6 w (.cells (a.eval x).cells T) xw;have⟨I,W⟩:=qq O.ok Z d 0 (n:=xz (xj w)) (ZdN _) Z1;have Y:=C6 O.ok Z O.ok.f_lt;refine⟨.pointer (xk ⟨xz (xj w),0,xw⟩),_,ZdB,_,W,I,?_⟩;generalize a.eval x=v at*;split at l;rename_i o;simp only[o,ZdH,ZdW]at l;obtain⟨rfl,rfl⟩:=l;have⟨z,Q⟩:=t _ (List.Mem.head _);have⟨q,M,N,_⟩:=qt Q;rw[hy]at q;cases q;have⟨K,L,f⟩:=J.cells M;refine⟨xz (xj w),v.cells,T,by simp[GH.give],rfl,Ze9 w _,ZcL,λj ck p=> ?_⟩;simp at p;obtain⟨R,A,rfl⟩:=p;have D:j<c.P.cellsOf T:=by simpa using(ZdJ.1 A).1
 have U:R=j:=by simpa[D]using A.symm
 subst U;have H:R<P y.cells:=by rw[N rfl];exact D
 have u:=ZdI H;refine⟨y.cells[R],?_,L _ (Ze2 _),(f R _ u).F.keep Y λb S=>S⟩;have a1:y.pc=y.cells:=by cases y<;>first|rfl|exact absurd rfl (M _)
 simp_all[eval,ZdS,ZY,YQ,if_pos,Ze2];rename_i o;have r:Y4 c.P T=xh:=by simpa using o
 simp only[r,ZdH,ZdW]at l;obtain⟨rfl,rfl⟩:=l;have⟨z,Q⟩:=t _ (List.Mem.head _);have⟨q,M,_,N⟩:=qt Q;rw[hy]at q;cases q;have⟨K,L,f⟩:=J.cells M;have X:=Ti (N rfl);rw[X]at K f;refine⟨xz (xj w),v.cells,T,by simp[GH.give],rfl,Ze9 w _,Z0,λj ck p=> ?_⟩;cases j with
 |zero=>
  simp at p;subst p;exact⟨y,Q,N rfl,(f 0 y rfl).F.keep Y λb S=>S⟩
 |succ j=>simp at p
 grind;grind
def MR off:∀(l:List (Value×Nat)) (d:Array Value) m,(∀i q,l[i]?=xk q->q.2=m+i)->off+m+P l<=d.size->
  (l.foldl (λd (c,j)=>d.setIfInBounds (off+j) c) d).size=d.size/\
  (∀x,x<off+m\/off+m+P l<=x->(l.foldl (λd (c,j)=>d.setIfInBounds (off+j) c) d)[x]?=d[x]?)/\
  ∀i q,l[i]?=xk q->(l.foldl (λd (c,j)=>d.setIfInBounds (off+j) c) d)[off+m+i]?=xk q.1
 | [],d,m,_,_=>⟨rfl,λ_ _=>rfl,λi q k=>by simp at k⟩
 | (v,j)::l,d,m,f,o=>by
   have y:=f 0 (v,j) rfl;subst y;have n:∀i q,l[i]?=xk q->q.2=(j+1)+i:=λi q k=>by
    have:=f (i+1) q ZcK;omega
   simp at o;have⟨t,p,u⟩:=MR off l (d.setIfInBounds (off+j) v) (j+1) n ZcM;simp only[Zgy];refine⟨by rw[t];simp,λx r=> ?_,λi q k=> ?_⟩;rw[p x (by simp at r;omega),ZeG (by simp at r;omega)];cases i with
   |zero=>
    simp at k;subst k;rw[Zft,p (off+j) Z0];have:off+j<d.size:=Z0;simp[this]
   |succ i=>
    have:=u i q ZcK;rw[show off+j+(i+1)=off+(j+1)+i from by omega];exact this
def Z6K off(v:Value)(cs:Array Value)(o:off+v.cells.size<=cs.size):
  (v.cells.zipIdx.foldl (λcs (c,j)=>cs.setIfInBounds (off+j) c) cs).size=cs.size/\
  (∀x,x<off\/off+v.cells.size<=x->(v.cells.zipIdx.foldl (λcs (c,j)=>cs.setIfInBounds (off+j) c) cs)[x]?=cs[x]?)/\
  ∀i,i<v.cells.size->(v.cells.zipIdx.foldl (λcs (c,j)=>cs.setIfInBounds (off+j) c) cs)[off+i]?=v.cells[i]? :=by
 have t:∀i q,v.cells.zipIdx.toList[i]?=xk q->v.cells[i]?=xk q.1/\q.2=0+i:=by
  intro i q f;rw[Zf5,ZhI,ZdK]at f;obtain⟨u,r,rfl⟩:=f;exact⟨r,Z0⟩
 have d:P v.cells.zipIdx.toList=v.cells.size:=Z1;rw[<-Zga];have⟨k,l,n⟩:=MR off v.cells.zipIdx.toList cs 0 (λi q f=>(t i q f).2) (by rw[d];omega);refine⟨k,λx y=>l x (by rw[d];omega),λi f=> ?_⟩;have p:v.cells.zipIdx.toList[i]?=xk (v.cells[i],0+i):=by
  rw[Zf5,ZhI];simp
 have:=n i _ p;rw[Zft]at this;rw[this];simp
def jt place:∀parts d,(∀p∈parts,∃off,place p.1=xk (off,p.2.cells.size)/\off+p.2.cells.size<=d.size)->
  ∃R,Instr.fill place d parts=xk R/\R.size=d.size/\
   (∀x,(∀p∈parts,∀off n,place p.1=xk (off,n)->x<off\/off+n<=x)->R[x]?=d[x]?)/\
   ∀pre p f,parts=pre++p::f->∀off,place p.1=xk (off,p.2.cells.size)->(∀q∈f,∀o n,place q.1=xk (o,n)->off+p.2.cells.size<=o\/o+n<=off)->∀j,j<p.2.cells.size->R[off+j]?=p.2.cells[j]?
 | [],d,_=>⟨d,rfl,rfl,λ_ _=>rfl,λpre p f u=>by simp at u⟩
 | (i,v)::parts,d,l=>by
   have⟨off,k,r⟩:=l (i,v) Z1;simp only at k r;have⟨K,H,L⟩:=Z6K off v d r;have⟨R,M,J,t,I⟩:=jt place parts (v.cells.zipIdx.foldl (λd (c,j)=>d.setIfInBounds (off+j) c) d) (λp u=>ZcL);refine⟨R,?_,Z0,λx D=> ?_,λpre p f u F z A j N=> ?_⟩;have:¬(off+v.cells.size>d.size):=Z0;simp only[Instr.fill,k];grind;rw[t x λp u=>D p (by simp[u])];exact H x (D (i,v) Z1 off _ k);obtain _|⟨y,pre⟩:=pre;grind;grind
end
end Vm
namespace Vm
open Go
open Go.RowKit (Below)
def YZ:List (CK×E)->List Nat->Nat->Option Nat
 | [],_,_=>xw
 |(.own _,_)::_,t::_,0=>xk t
 |(.own _,_)::r,_::d,i+1=>YZ r d i
 |(.own _,_)::_,[],_=>xw
 |_::_,_,0=>xw
 |_::r,d,i+1=>YZ r d i
def Xx:List (CK×E)->Nat
 | []=>0
 |(.own _,_)::r=>Xx r+1
 |_::r=>Xx r
theorem Cn:∀ {l} {d n:List Nat} {r:List (CK×E)} {i:Nat},Xx l=P d->i<P l->YZ (l++r) (d++n) i=YZ l d i
 | [],_,_,_,_,_,j=>by simp at j
 | (k,e)::l,d,n,r,i,f,j=>by
   cases k with
   |own o=>
    obtain _|⟨t,d⟩:=d;simp[Xx]at f;simp only[Xx,Zf4,Zht]at f;cases i with
    |zero=>rfl
    |succ i=>simpa[YZ]using Cn f ZcK
   |_=>
    simp only[Xx]at f;cases i with
    |zero=>rfl
    |succ i=>simpa[YZ]using Cn f ZcK
theorem Co:∀ {l} {d j:List Nat} {r:List (CK×E)} {i:Nat},Xx l=P d->YZ (l++r) (d++j) (P l+i)=YZ r j i
 | [],d,j,r,i,f=>by
   grind [List.eq_nil_of_length_eq_zero,Xx]
 | (k,e)::l,d,j,r,i,f=>by
   have n:(P l+1+i)=(P l+i)+1:=Z0;cases k with
   |own o=>
    obtain _|⟨t,d⟩:=d;simp[Xx]at f;simp_all[Xx,Zf4,Zht,ZeV,YZ,Co]
   |_=>
    simp only[Xx]at f;simp only[Zf4,ZeV,n,YZ];exact Co f
theorem Hz:∀l r,Xx (l++r)=Xx l+Xx r
 | [],r=>by simp[Xx]
 | (k,e)::l,r=>by
   cases k<;>simp only[ZeV,Xx,Hz l r]<;>omega
section
variable {c:Ctx}{B:Nat}{G:Nat->Prop}{s:St}{a:Act}{w w':World}{h:GH}{g:Gam}{C:ZB}
def BRel(c:Ctx)(B:Nat)(s:St)(a:Act)(w:World)(h:GH)(cs:List (CK×E))(ts sh:List Nat)(i:Nat)(d:CK×E)(v:Value):Prop:=
 match d.1 with
 |.own f=>∃t,YZ cs ts i=xk t/\t∈ts/\a.tmps[t]?=xk v/\∃x,eval s d.2=xk x/\OwnV c.P B w h (h.bl t 1) f x v
 |.nil=>v=.slice xw 0 0/\eval s d.2=xk (.sl [])
 |.fz=>∃x,eval s d.2=xk x/\x.one=xy/\Rd w (h.ext sh) x v
 |.dead=>False
def Z8n{q}{z:Array Value}(I:∀(j:Nat) v,z[j]?=xk v->∃x,q[j]?=xk x/\WW v=xk x)(u:z.size=P q)o n:
  Xx (Lj q o n).1=0/\∀y H F i j t,(Lj q o n).1[j]?=xk t->BRel c B s a w h y H F i t (z.getD (o+j) undef):=by
 constructor;unfold Lj;simp only;induction (List.take n (List.drop o q))with
 |nil=>rfl
 |cons x r J=>cases x<;>simp_all[Xx]
 intro y H F i j t A;simp only[Lj,Ze3,ZdK]at A;obtain⟨x,l,rfl⟩:=A;rw[Zel]at l;split at l;rw[Zec]at l;have k:o+j<z.size:=by rw[u];exact(ZdJ.1 l).1
 have⟨K,p,d⟩:=I (o+j) z[o+j] (Zeg k);rw[l]at p;cases p;have f:z.getD (o+j) undef=z[o+j]:=by simp[k]
 rw[f];generalize z[o+j]=v at d;unfold WW at d;split at d<;>first
  |(simp at d;subst d;first|exact⟨_,rfl,rfl,.int _ _⟩|exact⟨_,rfl,rfl,.bool _⟩|exact⟨_,rfl,rfl,.str _⟩|exact⟨rfl,rfl⟩|exact⟨_,rfl,rfl,.nomp⟩|exact⟨_,rfl,rfl,.nul0⟩|exact⟨_,rfl,rfl,.nul1⟩)
  | (split at d<;>first
    | (rename_i D
       simp at d;subst d;rw[ZeP D.1,ZeP D.2];exact⟨_,rfl,rfl,.fn _⟩)
    |simp at d)
  |simp at d
 grind
def Z0Y{e}{n j:Nat}{z}(d:eval s (.fld e j)=xk z):∃y,eval s e=xk y/\y.pc[j]?=xk z/\z.one=xy:=by
 grind [eval,Option.bind_eq_some_iff,jz,ZY,TU]
def IL{x:V}(h:∀l,x≠.tup l):x.pc=x.cells:=by
 rfl
def Aa(o:RelG c B G s a w h g)(k:holds s (ZE c C)){x d}(hx:Yv g C x=xk d){ag fl n}(F:n≠0){z}
  (q:eval s (WL ag n (XC fl d).1)=xk z):
  (∀l,z≠.tup l)/\(ag=xy->P z.cells=n)/\(ag=xh->z.one=xy)/\Rd w (h.ext (XC fl d).2) z (a.eval x):=by
 have⟨y,p,f⟩:=WD o k (show Yv g C x=xk (d.1,d.2)from hx);have⟨j,u,A,D⟩:=qt q;have⟨H,r,t⟩:=Ru (fl:=fl) (b:=d) p f ⟨z,j⟩;simp_all
def Z4w(S:RelG c B G s a w h g)(R:holds s (ZE c C)){n}(hn:n≠0){ag fl x}{b:BC}(I:Bg g C n ag fl x=xk b)(A:P b.1=n)
  (u:∀o∈b.1,∃z,eval s o.2=xk z):
  Xx b.1=P b.2.2/\(a.eval x).cells.size=n/\∀f,(∀t∈b.2.1,t∈f)->∀j o,b.1[j]?=xk o->BRel c B s a w h b.1 b.2.2 f j o ((a.eval x).cells.getD j undef):=by
 have a3:∀ {b},((Yv g C x).map λa0=>let a:=XC fl a0;let e:=WL ag n a.1;(if ag then(List.range n).map λj=>(CK.fz,E.fld e j)else [(.fz,e)],a.2,[]))=xk b->P b.1=n->(∀o∈b.1,∃z,eval s o.2=xk z)->
   Xx b.1=P b.2.2/\(a.eval x).cells.size=n/\∀f,(∀t∈b.2.1,t∈f)->∀j o,b.1[j]?=xk o->BRel c B s a w h b.1 b.2.2 f j o ((a.eval x).cells.getD j undef):=by
  intro b J A u;simp only[ZdK]at J;obtain⟨L,T,rfl⟩:=J;have D:∀f,(∀t∈(XC fl L).2,t∈f)->∀b,h.ext (XC fl L).2 b->h.ext f b:=by
   intro f d b J;obtain J|⟨p,I,i,hi⟩:=J;exact .inl J;exact .inr ⟨p,d p I,i,hi⟩
  cases ag with
  |true=>
   simp only[Zes]at A u⊢;have h0:=u (CK.fz,E.fld (WL xy n (XC fl L).1) 0) (ZdZ.2 ⟨0,ZfY.2 Z0,rfl⟩);have⟨z0,a2⟩:=h0;have⟨y,K,_,_⟩:=Z0Y (n:=n) a2;have⟨W,h2,_,X⟩:=Aa S R T hn K;have⟨O,Q,F⟩:=X.cells W;refine⟨?_,ZcL,λf d j o k=> ?_⟩;generalize List.range n=l;induction l with
   |nil=>rfl
   |cons q r ih=>simp_all[Xx]
   simp at k;obtain⟨U,M,rfl⟩:=k;have a1:j<n:=by simpa using(ZdJ.1 M).1
   have Y:U=j:=by simpa[a1]using M.symm
   subst Y;have H:y.cells[U]?=xk (y.cells[U]'ZcL):=ZdI _;refine⟨_,?_,Q _ (ZdQ H),(F U _ H).mono (D f d)⟩;simp_all[eval,ZdS,ZY,IL,YQ,if_pos,ZdQ]
  |false=>
   simp only[Ze1,Zew]at A u⊢;have⟨y,K⟩:=u (CK.fz,WL xh n (XC fl L).1) (ZeQ.2 rfl);have K:eval s (WL xh n (XC fl L).1)=xk y:=K;have⟨W,_,h3,X⟩:=Aa S R T hn K;have⟨O,Q,F⟩:=X.cells W;rw[Ti (h3 rfl)]at O F;refine⟨rfl,ZcL,λf d j o k=> ?_⟩;cases j with
   |zero=>
    simp at k;subst k;exact⟨y,K,h3 rfl,(F 0 y rfl).mono (D f d)⟩
   |succ j=>simp at k
 unfold Bg at I;split at I;rename_i t ty e Z;simp at I;subst I;have⟨v,hv,⟨x,T,ho⟩,_⟩:=S.look R (show look g C t=_ from Z) rfl;have N:v.cells=#[v]:=by
  obtain⟨l,xs,_,_,_,⟨_,hc⟩,_⟩|⟨_,_,_,_,_,_,_,rfl,_⟩:=ho;obtain⟨rfl,_⟩|⟨_,_,_,rfl,_⟩:=hc<;>rfl;rfl
 rw[Act.eval_tmp a t v hv,N];refine⟨rfl,Z0,λf d j o k=> ?_⟩;cases j with
 |zero=>
  simp at k;subst k;exact⟨t,rfl,Z1,by simpa using hv,x,T,by simpa using ho⟩
 |succ j=>simp at k
 rename_i Z;simp at I;subst I;rw[J1 S R Z];refine⟨rfl,by grind [Value.cells],λf d j o k=> ?_⟩;cases j with
 |zero=>simp at k;subst k;exact⟨rfl,rfl⟩
 |succ j=>simp at k
 grind
def BRel.left{cs r ts f sh i d v}(j:BRel c B s a w h cs ts sh i d v)(l:Xx cs=P ts)(k:i<P cs):BRel c B s a w h (cs++r) (ts++f) sh i d v:=by
 grind [BRel,Cn]
theorem BRel.right{cs r ts f sh i d v}(j:BRel c B s a w h r f sh i d v)(k:Xx cs=P ts):BRel c B s a w h (cs++r) (ts++f) sh (P cs+i) d v:=by
 grind [BRel,Co]
def DV(hr:RelG c B G s a w h g)(hC:holds s (ZE c C)){S parts}{z:Array Value}(hz:∀(j:Nat) v,z[j]?=xk v->∃x,S[j]?=xk x/\WW v=xk x)(Q:z.size=P S)sh:
  ∀H i o b,JC g C S parts H i o=xk b->(∀d∈b.1,∃z,eval s d.2=xk z)->(∀t∈b.2.1,t∈sh)->
   o+P b.1=P S/\Xx b.1=P b.2.2/\
   (∀q f,H[q]?=xk f->o<=f.1/\f.1+f.2.1<=P S/\(∀(L:Nat) A,H[L]?=xk A->q<L->f.1+f.2.1<=A.1))/\
   (∀q f p,H[q]?=xk f->parts.find? (λp=>p.1==i+q)=xk p->(a.eval p.2).cells.size=f.2.1)/\
   ∀R:Array Value,(∀q f,H[q]?=xk f->∀j,j<f.2.1->R.getD (f.1+j) undef=match parts.find? (λp=>p.1==i+q)with|some p=>(a.eval p.2).cells.getD j undef|none=>z.getD (f.1+j) undef)->
    ∀j d,b.1[j]?=xk d->BRel c B s a w h b.1 b.2.2 sh j d (R.getD (o+j) undef)
 | [],i,o,b,l,_,_=>by
   simp only[JC]at l;split at l;simp at l;subst l;exact⟨by simpa,rfl,λq f y=>by simp at y,λq f p y=>by simp at y,λR _ j d F=>by simp at F⟩;grind
 |f::H,i,o,b,l,K,O=>by
  simp only[JC,ZdG]at l;have⟨k,n,l⟩:=l;split at l;rename_i J;have⟨ho,W,hn⟩:=J;simp only[ZdK]at l;obtain⟨b2,T,rfl⟩:=l;simp only[Zea]at K O;have⟨h1,h2,h3,h4,h5⟩:=DV hr hC hz Q sh H (i+1) (o+f.2.1) b2 T (λd I=>K d (.inr I)) (λt ht=>O t (.inr ht))
  have N:Xx k.1=P k.2.2/\(∀p,parts.find? (λp=>p.1==i)=xk p->(a.eval p.2).cells.size=f.2.1)/\
    ∀j d,k.1[j]?=xk d->BRel c B s a w h k.1 k.2.2 sh j d (match parts.find? (λp=>p.1==i)with|some p=>(a.eval p.2).cells.getD j undef|none=>z.getD (f.1+j) undef):=by
   unfold II at n;cases r:parts.find? (λp=>p.1==i)with
   |some p=>
    simp only[r]at n;have⟨k1,k2,k3⟩:=Z4w hr hC hn n W λd I=>K d (.inl I);grind
   |none=>
    simp only[r,ZdH]at n;subst n;have⟨k1,k2⟩:=Z8n (c:=c) (B:=B) (s:=s) (a:=a) (w:=w) (h:=h) hz Q f.1 f.2.1;exact⟨k1,(λp' X=>by cases X),λj d F=>k2 _ _ sh j j d F⟩
  have⟨Z,f2,f3⟩:=N;refine⟨ZcK,by grind [Hz,List.length_append],λq A y=> ?_,λq A p y hp=> ?_,λR hR j d F=> ?_⟩;cases q with
  |zero=>
   simp at y;subst y;refine⟨Z0,Z0,λL A Y D=> ?_⟩;grind
  |succ q=>
   have⟨g1,g2,g3⟩:=h3 q A ZcK;refine⟨Z0,g2,λL a0 Y D=> ?_⟩;cases L with
   |zero=>omega
   |succ L=>grind
  cases q with
  |zero=>simp at y;subst y;exact f2 p (by simpa using hp)
  |succ q=>exact h4 q A p ZcK (by rw[show i+1+q=i+(q+1)from by omega];exact hp)
  by_cases D:j<P k.1;rw[Zed D]at F;have M:=hR 0 f rfl j Z0;rw[ho]at M;rw[M];have:=f3 j d F;rw[ho]at this;exact(this).left Z D;rw[Ze8 Z0]at F
  have:=h5 R (λq A y j' U=>by
   have:=hR (q+1) A ZcK j' U;grind) (j-P k.1) d F
  have u:=this.right (cs:=k.1) (ts:=k.2.2) Z;rw[show P k.1+(j-P k.1)=j from by omega]at u;rw[show o+f.2.1+(j-P k.1)=o+j from by omega]at u;exact u;grind
def AJ:∀ {l},TR l=xy->l.Nodup
 | [],_=>List.nodup_nil
 |x::l,d=>by
  simp only[TR,ZdL,ZeJ,Zfe,ZgG]at d;exact ZfK.2 ⟨d.1,AJ d.2⟩
def ER{β:Type}:∀ {l:List (Nat×β)} {p:Nat×β},(l.map (·.1)).Nodup->p∈l->l.find? (λq=>q.1==p.1)=xk p
 | [],p,_,d=>Zdo
 |q::l,p,f,d=>by
  simp only[Zeh,ZfK]at f;obtain rfl|d:=Ze5.1 d;simp;have j:q.1≠p.1:=λk=>f.1 (by rw[k];exact ZdZ.2 ⟨p,d,rfl⟩);rw[List.find?_cons_of_neg ZdF];exact ER f.2 d
def GG{α β:Type}{f}{g:α->β}:∀(l:List α),(∀x∈l,f x=xk (g x))->l.mapM f=xk (l.map g)
 | [],_=>rfl
 |x::l,d=>by
  simp_all[Zg7,GG]
def Z16{β:Type}{n q f}{x:β}(h:((List.range n).map f)[q]?=xk x):q<n/\x=f q:=by
 grind
def Mz(hr:RelG c B G s a w h g)(hC:holds s (ZE c C)){T fs}(Y:yx c.P T=xk fs){zs}(hz:zeroCells c.P T=xk zs){parts:Array (Nat×Operand)}{b}
  (hb:LD g C zs parts.toList fs=xk b) (b0:∀ck∈b.1,∃z,eval s ck.2=xk z):
  ∃vs,(Instr.build T (parts.map λ(i,x)=>(i,a.eval x))).run c.P w=.ok (.agg vs) w/\vs.size=P b.1/\Xx b.1=P b.2.2/\
   ∀j ck,b.1[j]?=xk ck->BRel c B s a w h b.1 b.2.2 b.2.1 j ck (vs.getD j undef):=by
 unfold LD at hb;split at hb;rename_i I;simp only[ZdL,ZdT,Ze4]at I;have⟨A,b4⟩:=I;have A:=AJ A;have⟨i,z,hi,a8,a3,N⟩:=CW hz
 obtain⟨place,k,H⟩:∃place,(∀q f,fs[q]?=xk f->place q=xk (f.1,f.2.1))/\
   ∀ps R,Instr.fill place z.cells ps=xk R->c.P.built T ps=xk R:=by
  unfold yx at Y;split at Y;rename_i b7 a4;cases Y;obtain⟨W,hu,a0,rfl⟩:=Nl a4;have b5:W.toList.mapM (λf=>(c.P.info? f.type).map λi=>(f.offset,i.size))=xk (W.toList.map λf=>(f.offset,c.P.cellsOf f.type)):=by
   apply GG;intro f hf;have⟨d,i,hd,hi,hs,_⟩:=VX (a0 f (Array.mem_toList_iff.1 hf));simp[hi,hs]
  refine⟨λx=>(W.toList.map λf=>(f.offset,c.P.cellsOf f.type)).toArray[x]?,λq f S=> ?_,λps R hR=> ?_⟩;simp at S;obtain⟨L,O,rfl⟩:=S;simp[O];simp only[Program.built,hi,hu,a8,b5];exact hR;rename_i n el a4;split at Y;rename_i a0;cases Y;have hu:=CD a4;have⟨d,i',hd,b1,hs,_⟩:=VX a0;refine⟨λx=>xk (x*c.P.cellsOf el,c.P.cellsOf el),λq f S=> ?_,λps R hR=> ?_⟩;obtain⟨_,rfl⟩:=Z16 S;rfl;simp only[Program.built,hi,hu,a8,b1,<-hs];exact hR;cases Y;cases Y
 have⟨h1,h2,h3,h4,h5⟩:=DV hr hC N a3 b.2.1 _ 0 0 b hb b0 (λt ht=>ht);simp only[Zev]at h1 h4 h5;have y:∀p∈parts.toList,∃f,fs[p.1]?=xk f/\(a.eval p.2).cells.size=f.2.1:=by
  intro p hp;have hl:=b4 p hp;refine⟨_,ZdI hl,h4 p.1 _ p (ZdI hl) (ER A hp)⟩
 have⟨R,hR,a9,X,a5⟩:=jt place (parts.toList.map λp=>(p.1,a.eval p.2)) z.cells (by
  intro p hp;obtain⟨K,u,rfl⟩:=ZdZ.1 hp;have⟨f,hf,D⟩:=y K u;refine⟨f.1,by rw[k _ f hf,D],?_⟩;simp only;rw[D,a3];exact(h3 _ f hf).2.1)
 have M:c.P.built T (parts.map λ(i,x)=>(i,a.eval x)).toList=xk R:=H _ _ (by simpa only[Zf3]using hR);refine⟨R,run_build w T _ R M,by rw[a9,a3];omega,h2,λj ck hj=>h5 R (λq f S j' b3=> ?_) j ck hj⟩;have J:∀q' L,fs[q']?=xk L->q'≠q->f.1+f.2.1<=L.1\/L.1+L.2.1<=f.1:=by
  intro q' L U Z;obtain hl|hl:=ZgE Z;exact .inr ((h3 q' L U).2.2 q f S hl);exact .inl ((h3 q f S).2.2 q' L U hl)
 cases r:parts.toList.find? (λp=>p.1==q)with
 |some p=>
  have a7:=Zgo r;have a1:p.1=q:=by simpa using Zha r
  have⟨pre,b6,a2⟩:=List.append_of_mem a7;have⟨L,O,D⟩:=y p a7;rw[a1,S]at O;cases O
  have b2:=a5 (pre.map λp=>(p.1,a.eval p.2)) (p.1,a.eval p.2) (b6.map λp=>(p.1,a.eval p.2)) (by rw[a2];simp) f.1 (by rw[a1,k q f S,D]) (by
   intro q' U o n Q;obtain⟨K,u,rfl⟩:=ZdZ.1 U;have⟨F,l,_⟩:=y K (by rw[a2];simp[u]);simp only at Q;rw[k _ F l]at Q;simp at Q;obtain⟨rfl,rfl⟩:=Q;simp only;rw[D];refine J K.1 F l λhe=> ?_;rw[a2]at A;simp only[Zf8,Zeh,ZgL,ZfK]at A;exact A.2.1.1 (by rw[a1,<-he];exact ZdZ.2 ⟨K,u,rfl⟩)) j' (by simp only;rw[D];exact b3)
  simp;rw[b2]
 |none=>
  have a6:=X (f.1+j') (by
   intro p hp off n Q;obtain⟨K,u,rfl⟩:=ZdZ.1 hp;have⟨F,l,_⟩:=y K u;simp only at Q;rw[k _ F l]at Q;simp at Q;obtain⟨rfl,rfl⟩:=Q;have Z:K.1≠q:=λhe=>by
    have:=List.find?_eq_none.1 r K u;simp[he]at this
   have:=J K.1 F l Z;omega)
  simp;rw[a6]
 simp at hb
end
end Vm
end
