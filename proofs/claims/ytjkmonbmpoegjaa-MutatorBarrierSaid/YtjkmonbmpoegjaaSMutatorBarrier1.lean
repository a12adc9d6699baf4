import Derived.WalkKit
import Derived.MapKept
set_option linter.unusedSimpArgs false
set_option linter.unusedVariables false
set_option linter.defProp false
def Z8W:=@_root_.List.length_append
def Z9M:=@_root_.Nat.succ_mul
def Zbf:=@_root_.Nat.add_comm
def Z97:=@_root_.Nat.zero_add
def Z8G:=@_root_.List.getElem?_append_left
def Z8F:=@_root_.List.getElem?_append_right
def Z9g:=@_root_.List.mem_of_mem_take
def Z9N:=@_root_.List.length_take
def Zbm:=@_root_.Nat.min_eq_left
def Zaq:=@_root_.List.take_append_drop
def ZaS:=@_root_.List.take_left
def Z9a:=@_root_.List.take_of_length_le
def Z93:=@_root_.Nat.mul_le_mul_right
def Za3:=@_root_.List.drop_of_length_le
def Z8x:=@_root_.List.mem_of_getElem?
def Z9v:=@_root_.Go.World.cell?_of_block
def Z90:=@_root_.List.mem_append
def Z8S:=@_root_.List.mem_map
def Z8A:=@_root_.List.all_eq_true
def Z8q:=@_root_.Array.getD_eq_getD_getElem?
def Z91:=@_root_.Option.getD_some
def Z8l:=@_root_.Option.some.injEq
def Z9n:=@_root_.Nat.zero_le
def Z9k:=@_root_.Array.eq_empty_of_size_eq_zero
def Z95:=@_root_.List.eq_nil_of_length_eq_zero
def Z8s:=@_root_.Go.cell_of_row
def Z8z:=@_root_.Nat.lt_of_lt_of_le
def Z8T:=@_root_.List.getElem?_take
def Z8m:=@_root_.Option.bind_eq_some_iff
def Z8p:=@_root_.Option.map_eq_some_iff
def Z9Z:=@_root_.List.any_eq_true
def Z8O:=@_root_.List.getElem?_of_mem
def Z8o:=@_root_.List.getElem?_eq_some_iff
def Z9w:=@_root_.Option.map_some
def Z8w:=@_root_.Prod.mk.injEq
def Z8u:=@_root_.Bool.and_eq_true
def Z9l:=@_root_.Bool.not_eq_true'
def Zba:=@_root_.List.any_eq_false
def ZaE:=@_root_.Bool.not_eq_true
def Z8E:=@_root_.Go.RowKit.Below.refl
def Zbn:=@_root_.Go.Operand.const.injEq
def Z9E:=@_root_.Option.isSome_iff_exists
def Z8X:=@_root_.Go.run_underlying
def Zag:=@_root_.Go.Sem.run_bind
def Za0:=@_root_.Go.Addr.add_lit
def Z99:=@_root_.beq_iff_eq
def Z8n:=@_root_.List.getElem?_eq_getElem
def ZaP:=@_root_.List.ext_getElem?
def Z8N:=@_root_.List.getElem?_drop
def Z9x:=@_root_.List.getElem?_eq_none
def Z9c:=@_root_.if_true
def ZaV:=@_root_.List.length_drop
def Zaj:=@_root_.Array.length_toList
def Z9p:=@_root_.Array.getElem?_toList
def Z8P:=@_root_.List.length_map
def Z8D:=@_root_.List.getElem?_map
def Z9F:=@_root_.List.size_toArray
def Z9S:=@_root_.List.getElem?_toArray
def Z8U:=@_root_.Bool.false_eq_true
def Z9f:=@_root_.if_false
def Z8y:=@_root_.Option.bind_some
def Z9i:=@_root_.Nat.add_assoc
def Zbb:=@_root_.List.length_range
def Z9Y:=@_root_.List.mem_of_mem_drop
def Z8H:=@_root_.Int.eq_ofNat_of_zero_le
def Z8B:=@_root_.Int.toNat_natCast
def Za9:=@_root_.List.mem_singleton
def ZaR:=@_root_.Array.mem_toList_iff
def Za6:=@_root_.Nat.add_zero
def Z8M:=@_root_.List.getElem_mem
def ZbU:=@_root_.Array.getElem?_extract
def Z9L:=@_root_.List.length_nil
def Za7:=@_root_.Nat.sub_self
def Zbo:=@_root_.Option.map_none
def Z8v:=@_root_.Nat.le_refl
def Za1:=@_root_.List.take_length
def Z8Y:=@_root_.Nat.le_trans
def ZbF:=@_root_.List.mapM_cons
def Z9K:=@_root_.Go.World.grownBy_alloc
def Z8C:=@_root_.Go.heap_alloc_new
def Z98:=@_root_.Array.getElem?_eq_getElem
def Z9o:=@_root_.List.length_cons
def Zaw:=@_root_.List.foldl_cons
def Zax:=@_root_.Array.getElem?_setIfInBounds_ne
def ZbW:=@_root_.Array.getElem?_zipIdx
def Zbc:=@_root_.not_true_eq_false
def ZaL:=@_root_.decide_false
def Zaf:=@_root_.Bool.false_or
def Z9d:=@_root_.List.nil_append
def Z9s:=@_root_.List.cons_append
def ZbK:=@_root_.Nat.add_right_cancel_iff
def Z9T:=@_root_.List.mem_range
def Z9z:=@_root_.List.contains_eq_mem
def Zb2:=@_root_.decide_eq_false_iff_not
def Zak:=@_root_.List.nodup_cons
def Z8Q:=@_root_.List.map_cons
def Z8V:=@_root_.List.mem_cons
def Z8L:=@_root_.decide_eq_true_eq
def ZaK:=@_root_.Nat.lt_or_gt_of_ne
def Za5:=@_root_.List.mem_of_find?_eq_some
def ZaM:=@_root_.List.find?_some
def Z9Q:=@_root_.List.map_append
def Zbd:=@_root_.List.nodup_append
def Zbx:=@_root_.List.find?_eq_none
section
namespace Vm
open Go
inductive V where
 |int (k:IntKind) (n:Int)
 |bool (b:Bool)
 |str (s:ByteArray)
 |sl (l:List V)
 |agg (cs:List V)
 |tup (l:List V)
 |ptr (cs:List V)
 |fn (f:FuncId)
 |mp (id:Nat) (ks vs:List V)
 |clo (f:FuncId) (cs:List V)
 |nul (k:Nat)
 deriving Inhabited
def V.cells:V→List V
 | .agg cs=>cs
 |x=> [x]
def V.one:V→Bool
 | .agg _| .tup _=>false
 |_=>true
def V.fits(k:Nat)(x:V):Prop:=x.cells.length=k∧ ∀c∈x.cells,c.one=true
def flat(l:List V):List V:=l.flatMap V.cells
theorem Z1f:flat []= []:=rfl
theorem X7(x:V)(l:List V):flat (x::l)=x.cells++flat l:=rfl
theorem U8(l r:List V):flat (l++r)=flat l++flat r:=by simp[flat]
theorem Y9{k:Nat}: ∀ {l:List V},(∀x∈l,x.fits k)→(flat l).length=l.length*k
 | [],_=>by simp[flat]
 |x::l,h=>by
  rw[X7,Z8W,(h x (by simp)).1,Y9 (fun y hy=>h y (by simp[hy]))];simp[Z9M,Zbf]
theorem WA{k:Nat}: ∀ {l:List V} {i:Nat} {x:V},(∀x∈l,x.fits k)→l[i]? =some x→ ∀j,j<k→(flat l)[i*k+j]? =x.cells[j]?
 | [],i,x,_,h,_,_=>by simp at h
 |y::l,0,x,hk,h,j,hj=>by
  simp at h;subst h;rw[X7,Nat.zero_mul,Z97,Z8G (by rw[(hk y (by simp)).1];exact hj)]
 |y::l,i+1,x,hk,h,j,hj=>by
  rw[X7,Z8F (by rw[(hk y (by simp)).1];rw[Z9M];omega),(hk y (by simp)).1,
   show(i+1)*k+j-k=i*k+j from by rw[Z9M];omega]
  exact WA (fun z hz=>hk z (by simp[hz])) (by simpa using h) j hj
theorem Z0u{k:Nat}{l:List V}(h: ∀x∈l,x.fits k)(n:Nat):flat (l.take n)=(flat l).take (n*k):=by
 by_cases hn:n≤l.length
 ·have h1:(flat (l.take n)).length=n*k:=by
   rw[Y9 (fun x hx=>h x (Z9g hx)),Z9N,Zbm hn]
  have h2:flat l=flat (l.take n)++flat (l.drop n):=by rw[←U8,Zaq]
  rw[h2,←h1,ZaS]
 ·rw[Z9a (by omega),Z9a];rw[Y9 h];exact Z93 _ (by omega)
theorem Z0J{k:Nat}{l:List V}(h: ∀x∈l,x.fits k)(n:Nat):flat (l.drop n)=(flat l).drop (n*k):=by
 by_cases hn:n≤l.length
 ·have h1:(flat (l.take n)).length=n*k:=by
   rw[Y9 (fun x hx=>h x (Z9g hx)),Z9N,Zbm hn]
  have h2:flat l=flat (l.take n)++flat (l.drop n):=by rw[←U8,Zaq]
  rw[h2,←h1,List.drop_left]
 ·rw[Za3 (by omega),Za3,Z1f];rw[Y9 h];exact Z93 _ (by omega)
theorem Qj{l:List V}{i:Nat}{c:V}(h:(flat l)[i]? =some c): ∃x∈l,c∈x.cells:=by
 have:=Z8x h;simpa[flat]using this
inductive Rd (w:World) (G:Nat→Prop):V→Value→Prop where
 |int (k:IntKind) (n:Int):Rd w G (.int k n) (.int k n)
 |bool (b:Bool):Rd w G (.bool b) (.bool b)
 |str (s:ByteArray):Rd w G (.str s) (.string s)
 |nil (a:Option Addr) (cap:Nat):cap≤maxLen→Rd w G (.sl []) (.slice a 0 cap)
 |sl (l:List V) (b o cap k:Nat) (vs:Nat→Value):l.length≤cap→cap≤maxLen→G b→(∀x∈l,x.fits k)→
   (∀i,i<l.length*k→w.cell? ⟨b,o+i,none⟩=some (vs i))→(∀i c,(flat l)[i]? =some c→Rd w G c (vs i))→
   Rd w G (.sl l) (.slice (some ⟨b,o,none⟩) l.length cap)
 |agg (cs:List V) (vs:Array Value):vs.size=cs.length→(∀c∈cs,c.one=true)→(∀i c,cs[i]? =some c→Rd w G c (vs.getD i undef))→Rd w G (.agg cs) (.agg vs)
 |tup (l:List V) (vs:Array Value):vs.size=l.length→(∀i c,l[i]? =some c→Rd w G c (vs.getD i undef))→Rd w G (.tup l) (.tuple vs)
 |ptr (cs:List V) (b o:Nat) (vs:Nat→Value):G b→(∀c∈cs,c.one=true)→(∀i,i<cs.length→w.cell? ⟨b,o+i,none⟩=some (vs i))→
   (∀i c,cs[i]? =some c→Rd w G c (vs i))→Rd w G (.ptr cs) (.pointer (some ⟨b,o,none⟩))
 |fn (f:FuncId):Rd w G (.fn f) (.func (.func f) #[] #[])
 |clo (f:FuncId) (cs:List V) (vs:Array Value):vs.size=cs.length→(∀i c,cs[i]? =some c→Rd w G c (vs.getD i undef))→Rd w G (.clo f cs) (.func (.func f) #[] vs)
 |nul0:Rd w G (.nul 0) (.pointer none)
 |nul1:Rd w G (.nul 1) .nilFunc
 |nomp:Rd w G (.mp 0 [] []) (.map none)
 |mp (id:Nat) (ks xs:List V) (b clk:Nat) (es:Array MapEntry):(id=0∨id=b+1)→G b→w.heap[b]? =some (.map es clk)→ks.length=es.size→xs.length=es.size→
   (∀i c,ks[i]? =some c→Rd w G c (es.getD i default).key)→(∀i c,xs[i]? =some c→Rd w G c (es.getD i default).val)→Rd w G (.mp id ks xs) (.map (some b))
def Same(G:Nat→Prop)(w w':World):Prop:= ∀b,G b→w'.heap[b]? =w.heap[b]?
theorem Same.refl(G:Nat→Prop)(w:World):Same G w w:=fun _ _=>rfl
theorem Same.trans{G:Nat→Prop}{a b c:World}(h:Same G a b)(k:Same G b c):Same G a c:=fun x hx=>(k x hx).trans (h x hx)
theorem Same.cell{G:Nat→Prop}{w w':World}(h:Same G w w'){b o:Nat}(hb:G b):w'.cell? ⟨b,o,none⟩=w.cell? ⟨b,o,none⟩:=
 Z9v (h b hb)
theorem Rd.keep{w w':World}{G G':Nat→Prop}{x:V}{v:Value}(h:Rd w G x v)(hs:Same G w w')(hg: ∀b,G b→G' b):Rd w' G' x v:=by
 induction h with
 |int k n=>exact .int k n
 |bool b=>exact .bool b
 |str s=>exact .str s
 |nil a cap hc=>exact .nil a cap hc
 |sl l b o cap k vs h1 h2 h3 h4 h5 _ ih=>exact .sl l b o cap k vs h1 h2 (hg _ h3) h4 (fun i hi=>by rw[hs.cell h3];exact h5 i hi) ih
 |agg cs vs h1 h2 _ ih=>exact .agg cs vs h1 h2 ih
 |tup l vs h1 _ ih=>exact .tup l vs h1 ih
 |ptr cs b o vs h1 h2 h3 _ ih=>exact .ptr cs b o vs (hg _ h1) h2 (fun i hi=>by rw[hs.cell h1];exact h3 i hi) ih
 |fn f=>exact .fn f
 |clo f cs vs h1 _ ih=>exact .clo f cs vs h1 ih
 |nul0=>exact .nul0
 |nul1=>exact .nul1
 |nomp=>exact .nomp
 |mp id ks xs b clk es h0 h1 h2 h3 h4 _ _ ih1 ih2=>exact .mp id ks xs b clk es h0 (hg _ h1) (by rw[hs b h1];exact h2) h3 h4 ih1 ih2
theorem Rd.mono{w:World}{G G':Nat→Prop}{x:V}{v:Value}(h:Rd w G x v)(hg: ∀b,G b→G' b):Rd w G' x v:=h.keep (.refl _ _) hg
theorem Rd.one_eq{w:World}{G:Nat→Prop}{x:V}{v:Value}(h:Rd w G x v):v.oneCell'=x.one:=by
 cases h<;>rfl
theorem Rd.cells{w:World}{G:Nat→Prop}{x:V}{v:Value}(h:Rd w G x v)(ht: ∀l,x≠ .tup l):v.cells.size=x.cells.length∧(∀c∈x.cells,c.one=true)∧ ∀i c,x.cells[i]? =some c→Rd w G c (v.cells.getD i undef):=by
 have aux: ∀ {x:V} {v:Value},Rd w G x v→x.one=true→v.cells= #[v]→x.cells= [x]→v.cells.size=x.cells.length∧(∀c∈x.cells,c.one=true)∧ ∀i c,x.cells[i]? =some c→Rd w G c (v.cells.getD i undef):=by
  intro x v h h1 hv hx;rw[hv,hx];refine⟨rfl,by simpa using h1,fun i c hi=> ?_⟩;cases i with
  |zero=>simp at hi;subst hi;simpa using h
  |succ i=>simp at hi
 cases h with
 |agg cs vs h1 h2 h3=>exact⟨h1,h2,h3⟩
 |tup l vs _ _=>exact absurd rfl (ht l)
 |int k n=>exact aux (.int k n) rfl rfl rfl
 |bool b=>exact aux (.bool b) rfl rfl rfl
 |str s=>exact aux (.str s) rfl rfl rfl
 |nil a cap hc=>exact aux (.nil a cap hc) rfl rfl rfl
 |sl l b o cap k vs h1 h2 h3 h4 h5 h6=>exact aux (.sl l b o cap k vs h1 h2 h3 h4 h5 h6) rfl rfl rfl
 |ptr cs b o vs h1 h2 h3 h4=>exact aux (.ptr cs b o vs h1 h2 h3 h4) rfl rfl rfl
 |fn f=>exact aux (.fn f) rfl rfl rfl
 |clo f cs vs h1 h2=>exact aux (.clo f cs vs h1 h2) rfl rfl rfl
 |nul0=>exact aux .nul0 rfl rfl rfl
 |nul1=>exact aux .nul1 rfl rfl rfl
 |nomp=>exact aux .nomp rfl rfl rfl
 |mp id ks xs b clk es h0 h1 h2 h3 h4 h5 h6=>exact aux (.mp id ks xs b clk es h0 h1 h2 h3 h4 h5 h6) rfl rfl rfl
end Vm
namespace Vm
open Go
inductive KC where
 |b|i (k:IntKind) |s
 deriving DecidableEq,Inhabited
inductive E where
 |c (v:V)
 |s (t:Nat)
 |m (t i:Nat)
 |mm (t i n:Nat)
 |bin (op:BinOp) (a b:E)
 |eqv (neg:Bool) (a b:E)
 |un (op:UnOp) (a:E)
 |conv (k:IntKind) (a:E)
 |len (a:E)
 |mn (a b:E)
 |mx (a b:E)
 |ext (a:E) (i:Nat)
 |idx (a i:E) (k:Nat)
 |fld (a:E) (o:Nat)
 |flds (a:E) (o n:Nat)
 |ai (a i:E) (n k:Nat) (ag:Bool)
 |slc (a lo hi:E) (k:Nat)
 |slcl (a lo:E) (k:Nat)
 |app (a b:E) (k:Nat)
 |upd (a i:E) (o:Nat) (b:E)
 |aput (a i:E) (n k:Nat) (b:E)
 |mk (z:V) (n:E)
 |lit (l:List E)
 |ag (l:List E)
 |ite (c a b:E)
 |star (a:E)
 |isag (a:E)
 |one (a:E)
 |sz (a:E) (n:Nat)
 |fl (a:E)
 |fls (a:E)
 |lk (kc:KC) (a k:E) (z:V) (ok:Bool)
 |mput (kc:KC) (a k v:E)
 |mlen (a:E)
 |mclr (a:E)
 |pt (f:Option FuncId) (l:List E)
 deriving Inhabited
inductive SV where
 |no
 |v (x:V)
 |m (cs:List V)
 deriving Inhabited
abbrev St:=List SV
def get(s:St)(t:Nat):SV:=(s[t]?).getD .no
def lim:Nat:=4294967296
def binV:BinOp→V→V→Option V
 | .add,.int k a,.int k' b=>if k=k' then some (.int k (k.wrap (a+b)))else none
 | .sub,.int k a,.int k' b=>if k=k' then some (.int k (k.wrap (a-b)))else none
 | .mul,.int k a,.int k' b=>if k=k' then some (.int k (k.wrap (a*b)))else none
 | .quo,.int k a,.int k' b=>if k=k'∧b≠0 then some (.int k (k.wrap (a.tdiv b)))else none
 | .rem,.int k a,.int k' b=>if k=k'∧b≠0 then some (.int k (a.tmod b))else none
 | .and,.int k a,.int k' b=>if k=k' then some (.int k (k.wrap (BitVec.ofInt k.bits a&&& BitVec.ofInt k.bits b).toNat))else none
 | .or,.int k a,.int k' b=>if k=k' then some (.int k (k.wrap (BitVec.ofInt k.bits a|||BitVec.ofInt k.bits b).toNat))else none
 | .xor,.int k a,.int k' b=>if k=k' then some (.int k (k.wrap (BitVec.ofInt k.bits a ^^^ BitVec.ofInt k.bits b).toNat))else none
 | .shl,.int k a,.int _ b=>if 0≤b then some (.int k (k.wrap (a*2 ^ (min b.toNat k.bits))))else none
 | .shr,.int k a,.int _ b=>if 0≤b then some (.int k (a.fdiv (2 ^ (min b.toNat k.bits))))else none
 | .eql,.int k a,.int k' b=>if k=k' then some (.bool (a==b))else none
 | .neq,.int k a,.int k' b=>if k=k' then some (.bool (a !=b))else none
 | .lss,.int k a,.int k' b=>if k=k' then some (.bool (decide (a<b)))else none
 | .leq,.int k a,.int k' b=>if k=k' then some (.bool (decide (a≤b)))else none
 | .gtr,.int k a,.int k' b=>if k=k' then some (.bool (decide (a>b)))else none
 | .geq,.int k a,.int k' b=>if k=k' then some (.bool (decide (a≥b)))else none
 |_,_,_=>none
def eqV(neg:Bool):V→V→Option V
 | .bool a,.bool b=>some (.bool (neg ^^ (a==b)))
 |_,_=>none
def unV:UnOp→V→Option V
 | .neg,.int k n=>some (.int k (k.wrap (0-n)))
 | .not,.bool b=>some (.bool !b)
 |_,_=>none
def qR(k:IntKind):V→Option V
 | .int _ n=>some (.int k (k.wrap n))
 |_=>none
def lenV:V→Option V
 | .sl l=>some (.int .i64 l.length)
 |_=>none
def minV:V→V→Option V
 | .int k x,.int _ y=>some (.int k (if y<x then y else x))
 |_,_=>none
def maxV:V→V→Option V
 | .int k x,.int _ y=>some (.int k (if y>x then y else x))
 |_,_=>none
def extV:V→Nat→Option V
 | .tup l,i=>l[i]?
 |_,_=>none
def idxV(x i:V)(k:Nat):Option V:=
 match x,i with
 | .sl l,.int _ i=>if 0≤i then(l[i.toNat]?).bind fun z=>if z.cells.length=k then some z else none else none
 |_,_=>none
def V.pc:V→List V
 | .agg cs=>cs
 |x=> [x]
def Sr:V→Option V
 | .ptr cs=>some (.agg cs)
 |_=>none
def oneV(x:V):Option V:=if x.one then some x else none
def szV(x:V)(n:Nat):Option V:=if x.cells.length=n then match x with| .tup _=>none|x=>some x else none
def KP:V→Option V
 | .agg cs=>some (.agg cs)
 |_=>none
def fldV(x:V)(o:Nat):Option V:=(x.pc[o]?).bind oneV
def Y7(k:Nat)(l:List V):Bool:=l.all fun x=>x.cells.length==k
def SJ(x:V)(o n:Nat):Option V:=if o+n≤x.pc.length then some (.agg ((x.pc.drop o).take n))else none
def aiV(x i:V)(n k:Nat)(ag:Bool):Option V:=
 match x,i with
 | .agg cs,.int _ i=>if 0≤i∧i<n∧cs.length=n*k then(if ag then some (.agg ((cs.drop (i.toNat*k)).take k))else cs[i.toNat*k]?)else none
 |_,_=>none
def slcV(k:Nat):V→V→V→Option V
 | .sl l,.int _ a,.int _ b=>if 0≤a∧a≤b∧b≤l.length∧Y7 k l=true then some (.sl ((l.take b.toNat).drop a.toNat))else none
 |_,_,_=>none
def qh(k:Nat):V→V→Option V
 | .sl l,.int _ a=>if 0≤a∧a≤l.length∧Y7 k l=true then some (.sl (l.drop a.toNat))else none
 |_,_=>none
def appV(k:Nat):V→V→Option V
 | .sl a,.sl b=>if a.length+b.length≤lim∧Y7 k b=true then some (.sl (a++b))else none
 |_,_=>none
def setCells(cs:List V)(o:Nat)(b:List V):List V:=cs.take o++b++cs.drop (o+b.length)
def V.put(x:V)(o:Nat)(b:List V):V:=
 match x with
 | .agg cs=> .agg (setCells cs o b)
 |_=>b.headD x
def updV(x i:V)(o:Nat)(b:V):Option V:=
 match x,i with
 | .sl l,.int _ i=>if 0≤i then(l[i.toNat]?).bind fun y=>if o+b.cells.length≤y.cells.length∧b.cells≠ []then some (.sl (l.set i.toNat (y.put o b.cells)))else none else none
 |_,_=>none
def S8(x i:V)(n k:Nat)(b:V):Option V:=
 match x,i with
 | .agg cs,.int _ i=>if 0≤i∧i<n∧cs.length=n*k∧b.cells.length=k then some (.agg (setCells cs (i.toNat*k) b.cells))else none
 |_,_=>none
def mkV(z:V):V→Option V
 | .int _ n=>if 0≤n∧n≤lim then some (.sl (List.replicate n.toNat z))else none
 |_=>none
def agV(l:List V):V:= .agg (flat l)
def V.flatc:V→Bool
 | .int .. | .bool _| .str _=>true
 |_=>false
def flV(x:V):Option V:=
 match x with
 | .tup _=>none
 |x=>if x.cells.all V.flatc then some x else none
def flsV(x:V):Option V:=
 match x with
 | .sl l=>if(Vm.flat l).all V.flatc then some x else none
 |_=>none
def Z22:V→V→Option Bool
 | .int k a,.int k' b=>if k=k' then some (a==b)else none
 | .bool a,.bool b=>some (a==b)
 | .str a,.str b=>some (a==b)
 |_,_=>none
def KE(k:V):List V→Option (Option Nat)
 | []=>some none
 |y::l=>match Z22 k y with
  |some true=>some (some 0)
  |some false=>(KE k l).map fun r=>r.map (· +1)
  |none=>none
def isK:KC→V→Bool
 | .b,.bool _=>true
 | .i k,.int k' _=>decide (k=k')
 | .s,.str _=>true
 |_,_=>false
def lkV(kc:KC)(x k z:V)(ok:Bool):Option V:=
 if isK kc k=false then none else
 match x with
 | .mp _ ks vs=>match KE k ks with
   |some (some i)=>(vs[i]?).map fun v=>if ok then .tup [v,.bool true]else v
   |some none=>some (if ok then .tup [z,.bool false]else z)
   |none=>none
 |_=>none
def QI(kc:KC)(x k v:V):Option V:=
 if isK kc k=false then none else
 match x with
 | .mp id ks vs=>match KE k ks with
   |some (some i)=>some (.mp id ks (vs.set i v))
   |some none=>some (.mp id (ks++ [k]) (vs++ [v]))
   |none=>none
 |_=>none
def Z05:V→Option V
 | .mp id _ _=>some (.mp id [] [])
 |_=>none
def Jz:V→Option V
 | .mp _ ks _=>some (.int .i64 ks.length)
 |_=>none
def iteV(c:V)(a b:Option V):Option V:=
 match c with
 | .bool true=>a
 | .bool false=>b
 |_=>none
def ptV(f:Option FuncId)(l:List V):Option V:=
 match f with
 |none=>if l.all V.one then some (.ptr l)else none
 |some f=>some (.clo f l)
mutual
def eval(s:St):E→Option V
 | .c v=>some v
 | .s t=>match get s t with| .v x=>some x|_=>none
 | .m t i=>match get s t with| .m cs=>(cs[i]?).bind oneV|_=>none
 | .mm t i n=>match get s t with| .m cs=>if i+n≤cs.length then some (.agg ((cs.drop i).take n))else none|_=>none
 | .bin op a b=>(eval s a).bind fun x=>(eval s b).bind fun y=>binV op x y
 | .eqv n a b=>(eval s a).bind fun x=>(eval s b).bind fun y=>eqV n x y
 | .un op a=>(eval s a).bind (unV op)
 | .conv k a=>(eval s a).bind (qR k)
 | .len a=>(eval s a).bind lenV
 | .mn a b=>(eval s a).bind fun x=>(eval s b).bind fun y=>minV x y
 | .mx a b=>(eval s a).bind fun x=>(eval s b).bind fun y=>maxV x y
 | .ext a i=>(eval s a).bind fun x=>extV x i
 | .idx a i k=>(eval s a).bind fun x=>(eval s i).bind fun y=>idxV x y k
 | .fld a o=>(eval s a).bind fun x=>fldV x o
 | .flds a o n=>(eval s a).bind fun x=>SJ x o n
 | .ai a i n k ag=>(eval s a).bind fun x=>(eval s i).bind fun y=>aiV x y n k ag
 | .slc a lo hi k=>(eval s a).bind fun x=>(eval s lo).bind fun y=>(eval s hi).bind fun z=>slcV k x y z
 | .slcl a lo k=>(eval s a).bind fun x=>(eval s lo).bind fun y=>qh k x y
 | .app a b k=>(eval s a).bind fun x=>(eval s b).bind fun y=>appV k x y
 | .upd a i o b=>(eval s a).bind fun x=>(eval s i).bind fun y=>(eval s b).bind fun z=>updV x y o z
 | .aput a i n k b=>(eval s a).bind fun x=>(eval s i).bind fun y=>(eval s b).bind fun z=>S8 x y n k z
 | .mk z n=>(eval s n).bind (mkV z)
 | .lit l=>(Y0 s l).map .sl
 | .ag l=>(Y0 s l).map agV
 | .ite c a b=>(eval s c).bind fun x=>iteV x (eval s a) (eval s b)
 | .star a=>(eval s a).bind Sr
 | .isag a=>(eval s a).bind KP
 | .one a=>(eval s a).bind oneV
 | .sz a n=>(eval s a).bind fun x=>szV x n
 | .fl a=>(eval s a).bind flV
 | .fls a=>(eval s a).bind flsV
 | .lk kc a k z ok=>(eval s a).bind fun x=>(eval s k).bind fun y=>lkV kc x y z ok
 | .mput kc a k v=>(eval s a).bind fun x=>(eval s k).bind fun y=>(eval s v).bind fun z=>QI kc x y z
 | .mlen a=>(eval s a).bind Jz
 | .mclr a=>(eval s a).bind Z05
 | .pt f l=>(Y0 s l).bind (ptV f)
def Y0(s:St):List E→Option (List V)
 | []=>some []
 |e::l=>(eval s e).bind fun x=>(Y0 s l).map (x:: ·)
end
mutual
def V.same:V→V→Bool
 | .int k n,.int k' n'=>decide (k=k')&&decide (n=n')
 | .bool a,.bool b=>a==b
 | .sl a,.sl b=>V.sames a b
 | .agg a,.agg b=>V.sames a b
 | .tup a,.tup b=>V.sames a b
 | .fn a,.fn b=>a==b
 | .mp i a b,.mp i' a' b'=>i==i'&&V.sames a a'&&V.sames b b'
 |_,_=>false
def V.sames:List V→List V→Bool
 | [],[]=>true
 |a::l,b::r=>V.same a b&&V.sames l r
 |_,_=>false
end
mutual
def E.same:E→E→Bool
 | .c a,.c b=>V.same a b
 | .s a,.s b=>a==b
 | .m a i,.m b j=>a==b&&i==j
 | .mm a i n,.mm b j n'=>a==b&&i==j&&n==n'
 | .bin o a b,.bin o' a' b'=>decide (o=o')&&E.same a a'&&E.same b b'
 | .eqv o a b,.eqv o' a' b'=>o==o'&&E.same a a'&&E.same b b'
 | .un o a,.un o' a'=>decide (o=o')&&E.same a a'
 | .conv k a,.conv k' a'=>decide (k=k')&&E.same a a'
 | .len a,.len b=>E.same a b
 | .mn a b,.mn a' b'=>E.same a a'&&E.same b b'
 | .mx a b,.mx a' b'=>E.same a a'&&E.same b b'
 | .ext a i,.ext b j=>E.same a b&&i==j
 | .idx a b k,.idx a' b' k'=>E.same a a'&&E.same b b'&&k==k'
 | .fld a o,.fld b o'=>E.same a b&&o==o'
 | .flds a o n,.flds b o' n'=>E.same a b&&o==o'&&n==n'
 | .ai a i n k g,.ai a' i' n' k' g'=>E.same a a'&&E.same i i'&&n==n'&&k==k'&&g==g'
 | .slc a b d k,.slc a' b' d' k'=>E.same a a'&&E.same b b'&&E.same d d'&&k==k'
 | .slcl a b k,.slcl a' b' k'=>E.same a a'&&E.same b b'&&k==k'
 | .app a b k,.app a' b' k'=>E.same a a'&&E.same b b'&&k==k'
 | .upd a i o b,.upd a' i' o' b'=>E.same a a'&&E.same i i'&&o==o'&&E.same b b'
 | .aput a i n k b,.aput a' i' n' k' b'=>E.same a a'&&E.same i i'&&n==n'&&k==k'&&E.same b b'
 | .mk z n,.mk z' n'=>V.same z z'&&E.same n n'
 | .lit l,.lit r=>E.sames l r
 | .ag l,.ag r=>E.sames l r
 | .star a,.star b=>E.same a b
 | .isag a,.isag b=>E.same a b
 | .one a,.one b=>E.same a b
 | .sz a n,.sz b n'=>E.same a b&&n==n'
 | .fl a,.fl b=>E.same a b
 | .fls a,.fls b=>E.same a b
 | .lk q a k z o,.lk q' a' k' z' o'=>decide (q=q')&&E.same a a'&&E.same k k'&&V.same z z'&&o==o'
 | .mput q a k v,.mput q' a' k' v'=>decide (q=q')&&E.same a a'&&E.same k k'&&E.same v v'
 | .mlen a,.mlen b=>E.same a b
 | .mclr a,.mclr b=>E.same a b
 | .pt f l,.pt g r=>f==g&&E.sames l r
 | .ite a b d,.ite a' b' d'=>E.same a a'&&E.same b b'&&E.same d d'
 |_,_=>false
def E.sames:List E→List E→Bool
 | [],[]=>true
 |a::l,b::r=>E.same a b&&E.sames l r
 |_,_=>false
end
mutual
def E.has(x:E):E→Bool
 | .bin o a b=>E.same x (.bin o a b)||E.has x a||E.has x b
 | .eqv o a b=>E.same x (.eqv o a b)||E.has x a||E.has x b
 | .un o a=>E.same x (.un o a)||E.has x a
 | .conv k a=>E.same x (.conv k a)||E.has x a
 | .len a=>E.same x (.len a)||E.has x a
 | .mn a b=>E.same x (.mn a b)||E.has x a||E.has x b
 | .mx a b=>E.same x (.mx a b)||E.has x a||E.has x b
 | .ext a i=>E.same x (.ext a i)||E.has x a
 | .idx a b k=>E.same x (.idx a b k)||E.has x a||E.has x b
 | .fld a o=>E.same x (.fld a o)||E.has x a
 | .flds a o n=>E.same x (.flds a o n)||E.has x a
 | .ai a i n k g=>E.same x (.ai a i n k g)||E.has x a||E.has x i
 | .slc a b d k=>E.same x (.slc a b d k)||E.has x a||E.has x b||E.has x d
 | .slcl a b k=>E.same x (.slcl a b k)||E.has x a||E.has x b
 | .app a b k=>E.same x (.app a b k)||E.has x a||E.has x b
 | .upd a i o b=>E.same x (.upd a i o b)||E.has x a||E.has x i||E.has x b
 | .aput a i n k b=>E.same x (.aput a i n k b)||E.has x a||E.has x i||E.has x b
 | .mk z n=>E.same x (.mk z n)||E.has x n
 | .lit l=>E.same x (.lit l)||E.hasIn x l
 | .ag l=>E.same x (.ag l)||E.hasIn x l
 | .ite a b d=>E.same x (.ite a b d)||E.has x a
 | .star a=>E.same x (.star a)||E.has x a
 | .isag a=>E.same x (.isag a)||E.has x a
 | .one a=>E.same x (.one a)||E.has x a
 | .sz a n=>E.same x (.sz a n)||E.has x a
 | .fl a=>E.same x (.fl a)||E.has x a
 | .fls a=>E.same x (.fls a)||E.has x a
 | .lk q a k z o=>E.same x (.lk q a k z o)||E.has x a||E.has x k
 | .mput q a k v=>E.same x (.mput q a k v)||E.has x a||E.has x k||E.has x v
 | .mlen a=>E.same x (.mlen a)||E.has x a
 | .mclr a=>E.same x (.mclr a)||E.has x a
 | .pt f l=>E.same x (.pt f l)||E.hasIn x l
 | .c v=>E.same x (.c v)
 | .s t=>E.same x (.s t)
 | .m t i=>E.same x (.m t i)
 | .mm t i n=>E.same x (.mm t i n)
def E.hasIn(x:E):List E→Bool
 | []=>false
 |a::l=>E.has x a||E.hasIn x l
end
def E.sure:E→Bool
 | .c v=>v.one
 | .m .. | .bin .. | .eqv .. | .un .. | .conv .. | .len _| .mn .. | .mx .. | .fld .. | .slc .. | .slcl .. | .app .. | .upd .. | .mk .. | .lit _| .one _| .mput .. | .mlen _| .mclr _=>true
 | .ite _ a b=>E.sure a&&E.sure b
 |_=>false
def E.sized(n:Nat):E→Bool
 | .mm _ _ k=>k==n
 | .flds _ _ k=>k==n
 | .ag l=>l.length==n&&l.all E.sure
 | .sz _ k=>k==n
 |_=>false
def oneE(e:E):E:=if e.sure then e else .one e
def szE(e:E)(n:Nat):E:=if e.sized n then e else .sz e n
def tyE(ag:Bool)(n:Nat)(e:E):E:=if ag then szE e n else oneE e
inductive TD where
 |sc|sl (e:TypeId) |st (fs:List (Nat×Nat×Bool×Bool)) |ar (n:Nat) (e:TypeId) |pt (e:TypeId) |no
 deriving DecidableEq,Inhabited
def VG:Value→Option V
 | .int k n=>some (.int k n)
 | .bool b=>some (.bool b)
 | .string s=>some (.str s)
 | .slice none 0 0=>some (.sl [])
 | .func (.func f) first captured=>if first.size=0∧captured.size=0 then some (.fn f)else none
 | .map none=>some (.mp 0 [] [])
 | .pointer none=>some (.nul 0)
 | .nilFunc=>some (.nul 1)
 |_=>none
def Zn(P:Program)(t:TypeId):Bool:=
 match P.underlying t with
 |some (.struct _) |some (.array _ _)=>true
 |_=>false
def zeroCells(P:Program)(t:TypeId):Option (List V):=
 ((P.info? t).bind (·.zero)).bind fun z=>z.cells.toList.mapM VG
def Xh(P:Program)(t:TypeId):Bool:=
 match P.underlying t with
 |some .bool|some (.int _) |some .string=>true
 |some (.struct _) |some (.array _ _)=>match zeroCells P t with|some l=>l.all V.flatc|none=>false
 |some (.tuple ts)=>ts.all fun u=>match P.underlying u with
  |some .bool|some (.int _) |some .string=>true
  |some (.struct _) |some (.array _ _)=>(match zeroCells P u with|some l=>l.all V.flatc|none=>false)
  |_=>false
 |_=>false
def okT(P:Program)(T:TypeId):Bool:=(P.underlying T).isSome&&(P.info? T).isSome
def tdOf(P:Program)(t:TypeId):TD:=
 match P.underlying t with
 |some .bool|some (.int _) |some .string=> .sc
 |some (.slice e)=> .sl e
 |some (.struct fs)=>if fs.toList.all (fun f=>okT P f.type)then .st (fs.toList.map fun f=>(f.offset,P.cellsOf f.type,Zn P f.type,Xh P f.type))else .no
 |some (.array n e)=> .ar n e
 |some (.pointer e)=> .pt e
 |_=> .no
def elOk(P:Program)(el:TypeId):Bool:=
 match P.info? el with
 |some i=>match i.zero with
  |some z=>z.cells.size==i.size&&decide (0<i.size)&&decide (i.bytes≤32768)
  |none=>false
 |none=>false
inductive CK where
 |fz|own (ty:TypeId) |nil|dead
 deriving DecidableEq,Inhabited
inductive OT where
 |fz|own (ty:TypeId) |nil|mem (l:List CK) |clo (f:FuncId) (caps:List Nat)
 deriving DecidableEq,Inhabited
inductive TK where
 |no
 |val (e:E) (sh:List Nat)
 |own (ty:TypeId) (e:E)
 |nil
 |mem (cs:List (CK×E))
 |ags (cs:List (CK×E))
 |ref (p:Nat)
 |refm (p i:Nat)
 |pm (p o:Nat)
 |pc (e:E) (o:Nat) (sh:List Nat)
 |pe (p:Nat) (i:Option Nat) (j:E) (o k:Nat)
 |pa (p o:Nat) (j:E) (n k:Nat)
 |clo (f:FuncId) (caps:List Nat)
 |big (e:E) (sh:List Nat)
 deriving Inhabited
def TK.isNo:TK→Bool
 | .no=>true
 |_=>false
abbrev Zg:=List (Nat×Bool)
abbrev Gam:=List (Nat×Zg×TK)
def Gam.at(g:Gam)(t:Nat):Zg×TK:=
 match g with
 | []=>([],.no)
 | (u,x)::r=>if u=t then x else Gam.at r t
def memOf(g:Gam)(p:Nat):Option (List (CK×E)):=
 match g.at p with
 | ([],.mem cs)=>some cs
 |_=>none
def ownOf(g:Gam)(p:Nat):Option (TypeId×E):=
 match g.at p with
 | ([],.own ty e)=>some (ty,e)
 |_=>none
def U0(a b:Zg):Bool:=a.all fun x=>b.contains x
def look(g:Gam)(C:Zg)(t:Nat):TK:=let x:=g.at t;if U0 x.1 C then x.2 else .no
def V6(cs:List (CK×E)):Bool:=cs.any fun c=>match c.1 with| .own _=>true|_=>false
def ZV(cs:List (CK×E)):Bool:=cs.any fun c=>c.1== .dead
def ownAt(g:Gam):TK→Option (TypeId×E)
 | .ref p=>ownOf g p
 | .refm p i=>(memOf g p).bind fun cs=>match cs[i]? with
   |some (.own ty,e)=>some (ty,e)
   |_=>none
 |_=>none
def asE(g:Gam)(k:TK)(t:Nat):Option (E×List Nat):=
 match k with
 | .val e sh=>some (e,sh)
 | .own _ e=>some (e,[t])
 | .nil=>some (.c (.sl []),[])
 | .ags cs=>if ZV cs then none else some (.ag (cs.map (·.2)),if V6 cs then [t]else [])
 | .ref p=>(ownAt g (.ref p)).map fun x=>(x.2,[p])
 | .refm p i=>(ownAt g (.refm p i)).map fun x=>(x.2,[p])
 |_=>none
def opK(g:Gam)(C:Zg)(x:Operand):TK:=
 match x with
 | .const (.slice none 0 0)=> .nil
 | .const v=>match VG v with|some x=> .val (.c x) [] |none=> .no
 | .tmp t=>look g C t
 | .func f=> .val (.c (.fn f)) []
 |_=> .no
def JY:Operand→Nat
 | .tmp t=>t
 |_=>0
def opE(g:Gam)(C:Zg)(x:Operand):Option (E×List Nat):=
 asE g (opK g C x) (match x with| .tmp t=>t|_=>0)
def flE(fl:Bool)(b:E×List Nat):E×List Nat:=if b.2.isEmpty then b else if fl then(.fl b.1,[])else b
def opsF(g:Gam)(C:Zg)(fl:Bool):List Operand→Option (List E×List Nat)
 | []=>some ([],[])
 |x::l=>(opE g C x).bind fun a0=>(opsF g C fl l).map fun b=>let a:=flE fl a0;(a.1::b.1,a.2++b.2)
def Z09(g:Gam):List Nat→Option (List E)
 | []=>some []
 |p::l=>(memOf g p).bind fun cs=>if ZV cs then none else(Z09 g l).map fun es=> .pt none (cs.map (·.2))::es
def bigE(g:Gam)(k:TK)(t:Nat):Option (E×List Nat):=
 match k with
 | .mem cs=>if ZV cs then none else some (.pt none (cs.map (·.2)),[t])
 | .pm p 0=>(memOf g p).bind fun cs=>if ZV cs then none else some (.pt none (cs.map (·.2)),[p])
 | .clo f caps=>(Z09 g caps).map fun es=>(.pt (some f) es,caps)
 | .big e sh=>some (e,sh)
 |_=>none
def argE(g:Gam)(C:Zg)(fl:Bool)(x:Operand):Option (E×List Nat×Bool):=
 match opE g C x with
 |some a=>some ((flE fl a).1,(flE fl a).2,false)
 |none=>(bigE g (opK g C x) (JY x)).map fun a=>(a.1,a.2,true)
def Z0g(P:Program)(g:Gam)(C:Zg):List Operand→List TypeId→Option (List E×List Nat×Bool)
 | [],_=>some ([],[],false)
 |x::l,ts=>(argE g C (match ts with|t::_=>Xh P t| []=>false) x).bind fun a=>(Z0g P g C l ts.tail).map fun b=>(a.1::b.1,a.2.1++b.2.1,a.2.2||b.2.2)
def YL(p:Nat):Nat→List (CK×E)→Bool
 |_,[]=>true
 |i,(_,.m q j)::r=>p==q&&i==j&&YL p (i+1) r
 |_,_=>false
def valE:TK→List E
 | .val e _=> [e]
 |_=> []
structure Ctx where
 P:Program
 ix:Nat→Nat
 own:Nat→Bool
 fresh:FuncId→Bool
 sig:FuncId→Option (List OT)
 tr:List Nat
 n:Nat
def Z1Z(c:Ctx)(g:Gam)(T:TypeId)(p o:Nat):Option TK:=
 (memOf g p).bind fun cs=>
  if Zn c.P T then
   let part:=(cs.drop o).take (c.P.cellsOf T)
   if part.length=c.P.cellsOf T∧ZV part=false∧0<c.P.cellsOf T then
    some (.val (if YL (c.ix p) o part then .mm (c.ix p) o part.length else .ag (part.map (·.2))) (if V6 part then [p]else []))
   else none
  else match cs[o]? with
   |some (.fz,e)=>some (.val e [])
   |some (.own _,_)=>some (.refm p o)
   |some (.nil,_)=>some .nil
   |_=>none
def Z2V(c:Ctx)(g:Gam)(T:TypeId)(p o:Nat)(j:E)(m k:Nat):Option TK:=
 (memOf g p).bind fun cs=>
  let part:=(cs.drop o).take (m*k)
  if part.length=m*k∧c.P.cellsOf T=k∧0<m*k∧V6 part=false∧ZV part=false then
   some (.val (.ai (if YL (c.ix p) o part then .mm (c.ix p) o part.length else .ag (part.map (·.2))) j m k (Zn c.P T)) [])
  else none
def Jg(c:Ctx)(T:TypeId)(e:E)(o:Nat):E:=if Zn c.P T then .flds e o (c.P.cellsOf T)else .fld e o
def R8(p:Nat):Option Nat→TK
 |none=> .ref p
 |some i=> .refm p i
def Z3E(c:Ctx)(g:Gam)(T:TypeId)(p:Nat)(i:Option Nat)(j:E)(o k:Nat):Option TK:=
 (ownAt g (R8 p i)).bind fun x=>if c.P.cellsOf x.1=k then some (.val (Jg c T (.idx x.2 j k) o) [p])else none
def Z4w(c:Ctx)(g:Gam)(T:TypeId)(k:TK)(t:Nat):Option TK:=
 match k with
 | .mem _=>Z1Z c g T t 0
 | .pm p o=>Z1Z c g T p o
 | .pc e o sh=>some (.val (Jg c T e o) sh)
 | .val e sh=>some (.val (Jg c T (.star e) 0) sh)
 | .pe p i j o k=>Z3E c g T p i j o k
 | .pa p o j m k=>Z2V c g T p o j m k
 |_=>none
def SD(P:Program)(T:TypeId)(f:Nat):Option (Nat×Nat×Bool×Bool):=
 match tdOf P T with
 | .st fs=>fs[f]?
 |_=>none
abbrev PK:=Option (TK×List E)
def TK.free:TK→Bool
 | .own .. | .mem _| .ags _| .no=>false
 |_=>true
def jx(g:Gam)(C:Zg)(x:Operand):PK:=
 if(opK g C x).free then some (opK g C x,[])else
 match x,opK g C x with
 | .tmp t,.own _ _=>some (.ref t,[])
 | .tmp t,.mem _=>some (.pm t 0,[])
 | .tmp t,.ags cs=>(asE g (.ags cs) t).map fun y=>(.val y.1 y.2,[])
 |_,_=>none
def T1(g:Gam)(C:Zg)(x:Operand):PK:=
 match opK g C x with
 | .mem _=>some (.pm (JY x) 0,[])
 | .pm p o=>some (.pm p o,[])
 | .val e sh=>some (.val e sh,[.star e])
 |_=>none
def J2(c:Ctx)(g:Gam)(C:Zg)(ty:TypeId)(x:Operand):PK:=
 match opK g C x with
 | .val e []=>some (.val e [],[])
 | .val e (p::sh)=>if Xh c.P ty then some (.val (.fl e) [],[.fl e])else none
 | .nil=>some (.nil,[])
 | .clo f caps=>some (.clo f caps,[])
 |_=>none
def L4(c:Ctx)(T:TypeId):PK:=
 (zeroCells c.P T).bind fun z=>if z.isEmpty then none else some (.mem (z.map fun x=>((match x with| .sl _=>CK.nil|_=> .fz),E.c x)),[])
def Z3H(c:Ctx)(g:Gam)(C:Zg)(T:TypeId)(x:Operand):PK:=
 match opK g C x with
 | .val e0 []=>
   if okT c.P T then
    let e:=tyE (Zn c.P T) (c.P.cellsOf T) e0
    if Zn c.P T then some (.mem ((List.range (c.P.cellsOf T)).map fun i=>(CK.fz,E.fld e i)),[e])else some (.mem [(.fz,e)],[e])
   else none
 |_=>none
def eqTy(P:Program)(T:TypeId):Bool:=
 match P.underlying T with
 |some .bool=>true
 |_=>false
def binS(P:Program)(rec:TypeId→Nat→Option E)(n o:Nat):List Field→Option E
 | []=>some (.c (.bool true))
 |f::l=>if f.name≠ "_" ∧f.offset+P.cellsOf f.type≤n then(rec f.type (o+f.offset)).bind fun x=>(binS P rec n o l).map fun y=> .ite x y (.c (.bool false))else none
def eqD(P:Program)(a b:E):Nat→TypeId→Nat→Option E
 |0,_,_=>none
 |d+1,T,o=>
  match P.underlying T with
  |some .bool=>if P.cellsOf T=1 then some (.eqv false (.fld a o) (.fld b o))else none
  |some (.int _)=>if P.cellsOf T=1 then some (.bin .eql (.fld a o) (.fld b o))else none
  |some (.struct fs)=>if fs.toList≠ []∧P.cellsOf T≠0∧P.stoodInHeld T=false then binS P (eqD P a b d) (P.cellsOf T) o fs.toList else none
  |_=>none
def eqSt(P:Program)(T:TypeId)(a b:E):Option E:=
 if Zn P T∧P.eqGuardType P.depth T=false then eqD P (.sz (.isag a) (P.cellsOf T)) (.sz (.isag b) (P.cellsOf T)) 4 T 0 else none
def binE(P:Program)(T:TypeId)(op:BinOp)(a b:E):E:=
 if eqTy P T then match op with
  | .eql=> .eqv false a b
  | .neq=> .eqv true a b
  |_=> .bin op a b
 else match op with
  | .eql=>(eqSt P T a b).getD (.bin op a b)
  | .neq=>((eqSt P T a b).map (.un .not)).getD (.bin op a b)
  |_=> .bin op a b
def Z38(c:Ctx)(g:Gam)(C:Zg)(op:BinOp)(T:TypeId)(x y:Operand):PK:=
 (opE g C x).bind fun a=>(opE g C y).map fun b=>let e:=binE c.P T op a.1 b.1;(.val e [],[e])
def pkUn(g:Gam)(C:Zg)(op:UnOp)(x:Operand):PK:=(opE g C x).map fun a=>(.val (.un op a.1) [],[.un op a.1])
def Z2z(c:Ctx)(g:Gam)(C:Zg)(src dst:TypeId)(x:Operand):PK:=
 if(c.P.underlying src).isNone then none else
 match c.P.underlying dst with
 |some (.int k)=>(opE g C x).map fun a=>(.val (.conv k a.1) [],[.conv k a.1])
 |_=>none
def Z4x(c:Ctx)(g:Gam)(C:Zg)(ty:TypeId)(x:Operand)(i:Nat):PK:=
 (opE g C x).map fun a=>let y:=flE (Xh c.P ty) (.ext a.1 i,a.2);(.val y.1 y.2,[y.1])
def Z0N(c:Ctx)(g:Gam)(C:Zg)(T:TypeId)(a:Operand):PK:=
 if okT c.P T then(Z4w c g T (opK g C a) (JY a)).map fun k=>(k,valE k)else none
def Lq(c:Ctx)(g:Gam)(C:Zg)(T:TypeId)(a:Operand)(f:Nat):PK:=
 (SD c.P T f).bind fun x=>if x.2.1=0 then none else
  match opK g C a with
  | .mem _=>some (.pm (JY a) x.1,[])
  | .pm p q=>some (.pm p (q+x.1),[])
  | .pc e q sh=>some (.pc e (q+x.1) sh,[])
  | .val e sh=>some (.pc (.star e) x.1 sh,[.star e])
  | .pe p i j q k=>some (.pe p i j (q+x.1) k,[])
  |_=>none
def TG(c:Ctx)(g:Gam)(p:Nat)(i:Option Nat)(el:TypeId)(j:E):PK:=
 (ownAt g (R8 p i)).bind fun x=>if c.P.cellsOf x.1=c.P.cellsOf el∧okT c.P el=true then some (.pe p i j 0 (c.P.cellsOf el),[.idx x.2 j (c.P.cellsOf el)])else none
def VV(c:Ctx)(g:Gam)(C:Zg)(T:TypeId)(x i:Operand):PK:=
 match tdOf c.P T with
 | .sl el=>(opE g C i).bind fun j=>
   match opK g C x with
   | .ref p=>TG c g p none el j.1
   | .refm p q=>TG c g p (some q) el j.1
   | .val e sh=>if okT c.P el then some (.pc (.idx e j.1 (c.P.cellsOf el)) 0 sh,[.idx e j.1 (c.P.cellsOf el)])else none
   |_=>none
 | .ar n el=>if !okT c.P el then none else(opE g C i).bind fun j=>
   match opK g C x with
   | .mem _=>some (.pa (JY x) 0 j.1 n (c.P.cellsOf el),[.ai (.c (.agg (List.replicate n (.bool true)))) j.1 n 1 false])
   | .pm p o=>some (.pa p o j.1 n (c.P.cellsOf el),[.ai (.c (.agg (List.replicate n (.bool true)))) j.1 n 1 false])
   | .pc e q sh=>let e':=E.ai (.flds e q (n*c.P.cellsOf el)) j.1 n (c.P.cellsOf el) true;some (.pc e' 0 sh,[e'])
   |_=>none
 |_=>none
def Z3k(c:Ctx)(g:Gam)(C:Zg)(T:TypeId)(x:Operand)(f:Nat):PK:=
 (SD c.P T f).bind fun y=>if y.2.1=0 then none else(opE g C x).map fun a=>
  let e:=if y.2.2.1 then E.flds (.isag a.1) y.1 y.2.1 else .fld (.isag a.1) y.1
  (.val e a.2,[e])
def L9(c:Ctx)(g:Gam)(C:Zg)(T:TypeId)(x i:Operand):PK:=
 match tdOf c.P T with
 | .ar n el=>if !okT c.P el then none else(opE g C x).bind fun a=>(opE g C i).map fun b=>
   let e:=E.ai a.1 b.1 n (c.P.cellsOf el) (Zn c.P el)
   (.val e a.2,[e])
 |_=>none
def opLo(g:Gam)(C:Zg):Option Operand→Option E
 |some l=>(opE g C l).map Prod.fst
 |none=>some (.c (.int .i64 0))
def opHi(g:Gam)(C:Zg)(a l:E)(k:Nat):Option Operand→Option E
 |some h=>(opE g C h).map fun y=> .slc a l y.1 k
 |none=>some (.slcl a l k)
def L1(c:Ctx)(g:Gam)(C:Zg)(T:TypeId)(x:Operand)(lo hi:Option Operand):PK:=
 match tdOf c.P T with
 | .sl el=>if okT c.P el then(opE g C x).bind fun a=>
   (opLo g C lo).bind fun l=>(opHi g C a.1 l (c.P.cellsOf el) hi).map fun e=>(.val e a.2,[e])else none
 |_=>none
def Sk(g:Gam)(C:Zg)(n:Nat)(ag fl:Bool)(x:Operand):Option (List (CK×E)×List Nat×List Nat):=
 match x,opK g C x with
 | .tmp t,.own ty e=>some ([(.own ty,e)],[],[t])
 |_,.nil=>some ([(.nil,.c (.sl []))],[],[])
 |_,_=>(opE g C x).map fun a0=>let a:=flE fl a0;let e:=tyE ag n a.1;(if ag then(List.range n).map fun j=>(.fz,.fld e j)else [(.fz,e)],a.2,[])
abbrev BC:=List (CK×E)×List Nat×List Nat
def Uq(zs:List V)(o n:Nat):BC:=(((zs.drop o).take n).map fun(z:V)=>((match z with| .sl _=>CK.nil|_=>CK.fz),E.c z),[],[])
def Z2L(g:Gam)(C:Zg)(zs:List V)(parts:List (Nat×Operand))(f:Nat×Nat×Bool×Bool)(i:Nat):Option BC:=
 match parts.find? (fun p=>p.1==i)with
 |some p=>Sk g C f.2.1 f.2.2.1 f.2.2.2 p.2
 |none=>some (Uq zs f.1 f.2.1)
def Uf:List Nat→Bool
 | []=>true
 |x::l=> !l.contains x&&Uf l
def V4(g:Gam)(C:Zg)(zs:List V)(parts:List (Nat×Operand)):List (Nat×Nat×Bool×Bool)→Nat→Nat→Option BC
 | [],_,o=>if o=zs.length then some ([],[],[])else none
 |f::r,i,o=>(Z2L g C zs parts f i).bind fun a=>if f.1=o∧a.1.length=f.2.1∧f.2.1≠0 then(V4 g C zs parts r (i+1) (o+f.2.1)).map fun b=>(a.1++b.1,a.2.1++b.2.1,a.2.2++b.2.2)else none
def Vr(g:Gam)(C:Zg)(zs:List V)(parts:List (Nat×Operand))(fs:List (Nat×Nat×Bool×Bool)):Option BC:=
 if Uf (parts.map (·.1))&&parts.all (fun p=>decide (p.1<fs.length))then V4 g C zs parts fs 0 0 else none
def Z7l(cs:List (CK×E)):Bool:=cs.all fun c=>c.1== .fz
def zm(P:Program)(T:TypeId):Option (List (Nat×Nat×Bool×Bool)):=
 match tdOf P T with
 | .st fs=>some fs
 | .ar n el=>if okT P el then some ((List.range n).map fun i=>(i*P.cellsOf el,P.cellsOf el,Zn P el,Xh P el))else none
 |_=>none
def Z0z(c:Ctx)(g:Gam)(C:Zg)(T:TypeId)(parts:List (Nat×Operand)):PK:=
 (zm c.P T).bind fun fs=>(zeroCells c.P T).bind fun zs=>(Vr g C zs parts fs).bind fun b=>
  if b.2.2.isEmpty then
   let e:=E.ag (b.1.map (·.2))
   if b.2.1.isEmpty&& !Z7l b.1 then some (.ags b.1,[e])else some (.val e b.2.1,[e])
  else none
def Rk(c:Ctx)(dst:Option Nat)(el:TypeId)(e:E)(sh:List Nat):PK:=
 match dst with
 |some d=>if c.own d&&sh.isEmpty then some (.own el e,[e])else some (.val e sh,[e])
 |none=>none
def Vf(c:Ctx)(g:Gam)(C:Zg)(dst:Option Nat)(T:TypeId)(n:Nat)(parts:List (Nat×Operand)):PK:=
 match tdOf c.P T with
 | .sl el=>(opsF g C (Xh c.P el) (parts.map (·.2))).bind fun es=>
   if parts.map (·.1)=List.range n∧n<256∧c.P.cellsOf el<256∧elOk c.P el=true∧(Zn c.P el=true∨c.P.cellsOf el=1)then Rk c dst el (.lit (es.1.map (tyE (Zn c.P el) (c.P.cellsOf el)))) es.2 else none
 |_=>none
def jJ:Operand→Operand→Bool
 | .tmp t,.tmp u=>t==u
 | .const (.int _ x),.const (.int _ y)=>x==y
 |_,_=>false
def Z02(c:Ctx)(g:Gam)(C:Zg)(dst:Option Nat)(T:TypeId)(n m:Operand):PK:=
 match tdOf c.P T with
 | .sl el=>(zeroCells c.P el).bind fun z=>(opE g C n).bind fun a=>
   if jJ n m&&elOk c.P el&&(Zn c.P el||z.length==1)then Rk c dst el (.mk (if Zn c.P el then .agg z else z.headD (.agg [])) a.1) []else none
 |_=>none
def Z59(c:Ctx)(g:Gam)(C:Zg)(T:TypeId)(x:Operand):PK:=
 match c.P.underlying T with
 |some (.slice _)=>(opE g C x).map fun a=>(.val (.len a.1) [],[.len a.1])
 |some (.array n _)=>some (.val (.c (.int .i64 n)) [],[])
 |some (.map _ _)=>(opE g C x).map fun a=>(.val (.mlen a.1) [],[.mlen a.1])
 |_=>none
def K3(g:Gam)(C:Zg):List Operand→Option (List Nat)
 | []=>some []
 |x::l=>match x,opK g C x with
  | .tmp t,.mem _=>(K3 g C l).map (t:: ·)
  |_,_=>none
def T5(g:Gam)(C:Zg)(f:Go.Fn)(first captured:List Operand):PK:=
 match f,first,captured with
 | .func f,[],[]=>some (.val (.c (.fn f)) [],[])
 | .func f,[],l=>(K3 g C l).map fun ts=>(.clo f ts,[])
 |_,_,_=>none
def kcOf(P:Program)(t:TypeId):Option KC:=
 match P.underlying t with
 |some .bool=>some .b
 |some (.int k)=>some (.i k)
 |some .string=>some .s
 |_=>none
def Z3z(P:Program)(t:TypeId):Option V:=
 ((P.info? t).bind (·.zero)).bind fun z=>match z with
   | .agg cs=>(cs.toList.mapM VG).map .agg
   |v=>VG v
def Z0M(P:Program)(t:TypeId):Bool:=
 match P.underlying t with
 |some (.map _ _)=>true
 |_=>false
def Sp(c:Ctx)(T:TypeId):PK:=if Z0M c.P T then some (.own T (.c (.mp 0 [] [])),[])else none
def Vg(c:Ctx)(g:Gam)(C:Zg)(T:TypeId)(x k:Operand)(ok:Bool):PK:=
 match c.P.underlying T with
 |some (.map kt el)=>(kcOf c.P kt).bind fun kc=>(Z3z c.P el).bind fun z=>(opE g C x).bind fun a=>(opE g C k).map fun b=>
   let e:=E.lk kc a.1 b.1 z ok
   (.val e a.2,[e])
 |_=>none
def Z2H(P:Program)(T:TypeId):Bool:=
 match P.underlying T with
 |some (.map _ el)=>Xh P el
 |_=>false
def Ql(c:Ctx)(g:Gam)(C:Zg)(T:TypeId)(x k:Operand)(ok:Bool):PK:=
 (Vg c g C T x k ok).bind fun r=>match r.1 with
 | .val e sh=>let y:=flE (!ok&&Z2H c.P T) (e,sh);some (.val y.1 y.2,[y.1])
 |_=>none
def pkMM(g:Gam)(C:Zg)(mx:Bool)(x y:Operand):PK:=
 (opE g C x).bind fun a=>(opE g C y).map fun b=>let e:=if mx then E.mx a.1 b.1 else .mn a.1 b.1;(.val e [],[e])
def Tc(fl:Bool)(b:E×List Nat):E×List Nat:=if b.2.isEmpty then b else if fl then(.fls b.1,[])else b
def J0(c:Ctx)(g:Gam)(C:Zg)(dst:Option Nat)(T U:TypeId)(x y:Operand):PK:=
 match tdOf c.P T with
 | .sl el=>if T=U∧elOk c.P el=true then
   match opK g C x with
   | .nil=>(opE g C y).bind fun b=>
     let y:=Tc (Xh c.P el) b
     if(match dst with|some d=>c.own d|none=>false)&& !y.2.isEmpty then none else Rk c dst el (.app (.c (.sl [])) y.1 (c.P.cellsOf el)) y.2
   |_=>none
  else none
 |_=>none
def pk(c:Ctx)(g:Gam)(C:Zg)(o:Oper):PK:=
 match o.op with
 | .move x=>jx g C x
 | .nilCheck x=>T1 g C x
 | .assign x=>J2 c g C o.type x
 | .alloc T=>L4 c T
 | .box T x=>Z3H c g C T x
 | .binOp op T x y _=>Z38 c g C op T x y
 | .unOp op _ x=>pkUn g C op x
 | .convert src dst x=>Z2z c g C src dst x
 | .extract x i=>Z4x c g C o.type x i
 | .load T a=>Z0N c g C T a
 | .fieldAddr T a f=>Lq c g C T a f
 | .indexAddr T x i=>VV c g C T x i
 | .field T x f=>Z3k c g C T x f
 | .index T x i=>L9 c g C T x i
 | .slice T x lo hi none=>L1 c g C T x lo hi
 | .build T parts=>Z0z c g C T parts.toList
 | .buildSlice T n parts=>Vf c g C o.dst T n parts.toList
 | .makeSlice T n m=>Z02 c g C o.dst T n m
 | .makeFunc f first captured=>T5 g C f first.toList captured.toList
 | .makeMap T none=>Sp c T
 | .lookup T x k ok=>Ql c g C T x k ok
 | .call {callee:= .builtin .len,args,argTypes}=>match args.toList,argTypes.toList with
   | [x],[T]=>Z59 c g C T x
   |_,_=>none
 | .call {callee:= .builtin .min,args, .. }=>match args.toList with
   | [x,y]=>pkMM g C false x y
   |_=>none
 | .call {callee:= .builtin .max,args, .. }=>match args.toList with
   | [x,y]=>pkMM g C true x y
   |_=>none
 | .call {callee:= .builtin .append,args,argTypes}=>match args.toList,argTypes.toList with
   | [x,y],[T,U]=>J0 c g C o.dst T U x y
   |_,_=>none
 |_=>none
inductive FN where
 |id (f:FuncId)
 |e (x:E)
 deriving Inhabited
def FN.es:FN→List E
 | .id _=> []
 | .e x=> [x]
inductive EF where
 |lt (i:Nat) (C:Zg) (e:E)
 |call (i:Nat) (C:Zg) (f:FN) (fr fl:Bool) (args:List E)
 |callm (i:Nat) (C:Zg) (f:FN) (ks:List OT) (args:List E)
 deriving Inhabited
inductive OV where
 |v (e:E)
 |m (l:List E)
 |no
 deriving Inhabited
structure Reg where
 efs:List EF
 chks:List (Zg×E)
 outs:List (Nat×OV)
 deriving Inhabited
structure OS where
 d:Gam
 ps:List Nat
 rb:List Nat
 fz:List Nat
 efs:List EF
 chks:List (Zg×E)
 deriving Inhabited
def Z41:CK→CK
 | .own _=> .fz
 |k=>k
def VM:TK→TK
 | .own _ e=> .val e []
 | .ags cs=>if ZV cs then .no else .val (.ag (cs.map (·.2))) []
 | .mem cs=> .mem (cs.map fun c=>(Z41 c.1,c.2))
 |k=>k
def US(fz:List Nat):TK→Bool
 | .pe q _ _ _ _=>fz.contains q
 |_=>false
def Xf(p:Nat):TK→Bool
 | .val _ sh=>sh.contains p
 | .ref q=>p==q
 | .refm q _=>p==q
 | .pc _ _ sh=>sh.contains p
 | .pe q _ _ _ _=>p==q
 | .big _ sh=>sh.contains p
 |_=>false
def leads(p:Nat):TK→Bool
 | .pa q _ _ _ _=>p==q
 | .pm q _=>p==q
 | .clo _ caps=>caps.contains p
 |_=>false
def calm(ps rb fz:List Nat)(k:TK):Bool:= !(ps.any fun p=>Xf p k)&& !(rb.any fun p=>leads p k)&& !US fz k
def XK(ps rb fz:List Nat)(g:Gam):Gam:=g.filterMap fun x=>if calm ps rb fz x.2.2 then none else some (x.1,[],.no)
def YU(fz:List Nat)(g:Gam):Gam:=fz.map fun p=>(p,(g.at p).1,VM (g.at p).2)
def frz(fz:List Nat)(g:Gam):Gam:=XK [] [] fz g++YU fz g++g
def Zu(g:Gam):List Nat:=g.map (·.1)
structure MS where
 d:Gam
 ps:List Nat
 rb:List Nat
 fz:List Nat
 es:List E
 deriving Inhabited
def Jv(g:Gam)(fl:Bool)(x:Operand):Option (E×List Nat):=(opE g [] x).map fun a0=>flE fl a0
def Vy(cs:List (CK×E))(o:Nat)(new:List (CK×E)):List (CK×E):=cs.take o++new++cs.drop (o+new.length)
def putM(g:Gam)(p o:Nat)(new:List (CK×E)):Option TK:=
 (memOf g p).bind fun cs=>if o+new.length≤cs.length then some (.mem (Vy cs o new))else none
def LX(c:Ctx)(g:Gam)(d:Nat):TK→Option (Nat×TypeId×E)
 | .ref p=>if c.tr.contains d&&p !=d then(ownOf g p).map fun y=>(p,y.1,y.2)else none
 |_=>none
def TN(c:Ctx)(g:Gam)(ty:TypeId)(d:Nat)(x:Operand):Option MS:=
 match x,opK g [] x with
 | .tmp t,.own ty e=>if t=d∨(g.at t).1≠ []then none else some {d:= [(d,[],.own ty e),(t,[],.no)],ps:= [d,t],rb:= [d,t],fz:= [],es:= []}
 | .tmp t,.mem cs=>if t=d∨(g.at t).1≠ []then none else some {d:= [(d,[],.mem cs),(t,[],.no)],ps:= [d,t],rb:= [d,t],fz:= [],es:= []}
 | .tmp _,.pm p 0=>if c.tr.contains d&&p !=d then(memOf g p).bind fun cs=>if ZV cs then none else
   some {d:= [(d,[],.val (.pt none (cs.map (·.2))) []),(p,[],.no)],ps:= [d,p],rb:= [d,p],fz:= [],es:= [.pt none (cs.map (·.2))]}else none
 |_,.nil=>some {d:= [(d,[],.nil)],ps:= [d],rb:= [d],fz:= [],es:= []}
 |_,k=>match LX c g d k with
  |some (p,ty,e)=>some {d:= [(d,[],.own ty e),(p,[],.no)],ps:= [d,p],rb:= [d,p],fz:= [],es:= []}
  |none=>(Jv g (Xh c.P ty) x).map fun a=> {d:= [(d,[],.val a.1 [])],ps:= [d],rb:= [d],fz:=a.2,es:= [a.1]}
def TP(c:Ctx)(g:Gam)(T:TypeId)(p o:Nat)(x:Operand):Option MS:=
 let n:=c.P.cellsOf T
 if Zn c.P T then
  match x,opK g [] x with
  | .tmp t,.ags cs=>if cs.length=n∧t≠p∧(g.at t).1= []then(putM g p o cs).map fun k=> {d:= [(p,[],k),(t,[],.no)],ps:= [p,t],rb:= [t],fz:= [],es:= []}else none
  |_,_=>(Jv g (Xh c.P T) x).bind fun a=>let e:=tyE true n a.1;(putM (frz a.2 g) p o ((List.range n).map fun j=>(CK.fz,E.fld e j))).map fun k=> {d:= [(p,[],k)],ps:= [p],rb:= [],fz:=a.2,es:= [e]}
 else match x,opK g [] x with
  | .tmp t,.own ty e=>if t≠p∧(g.at t).1= []then(putM g p o [(.own ty,e)]).map fun k=> {d:= [(p,[],k),(t,[],.no)],ps:= [p,t],rb:= [t],fz:= [],es:= []}else none
  |_,.nil=>(putM g p o [(.nil,.c (.sl []))]).map fun k=> {d:= [(p,[],k)],ps:= [p],rb:= [],fz:= [],es:= []}
  |_,_=>(Jv g (Xh c.P T) x).bind fun a=>let e:=oneE a.1;(putM (frz a.2 g) p o [(.fz,e)]).map fun k=> {d:= [(p,[],k)],ps:= [p],rb:= [],fz:=a.2,es:= [e]}
def Qq(c:Ctx)(g:Gam)(T:TypeId)(p:Nat)(i:Option Nat)(j:E)(o k:Nat)(x:Operand):Option MS:=
 (Jv g (Xh c.P T) x).bind fun a=>let e:=tyE (Zn c.P T) (c.P.cellsOf T) a.1;let g:=frz a.2 g
  if a.2.contains p then none else
  match i with
  |none=>(ownOf g p).bind fun x=>let e':=E.upd x.2 j o e;if c.P.cellsOf x.1=k then some {d:= [(p,[],.own x.1 e')],ps:= [p],rb:= [],fz:=a.2,es:= [e']}else none
  |some q=>(memOf g p).bind fun cs=>match cs[q]? with
   |some (.own ty,e0)=>let e':=E.upd e0 j o e;if c.P.cellsOf ty=k then(putM g p q [(.own ty,e')]).map fun k=> {d:= [(p,[],k)],ps:= [p],rb:= [],fz:=a.2,es:= [e']}else none
   |_=>none
def QE(c:Ctx)(g:Gam)(T:TypeId)(p o:Nat)(j:E)(n k:Nat)(x:Operand):Option MS:=
 (Jv g (Xh c.P T) x).bind fun a1=>let a:=(tyE (Zn c.P T) (c.P.cellsOf T) a1.1,a1.2);if !a.2.isEmpty||c.P.cellsOf T≠k then none else
  (memOf g p).bind fun cs=>
   let part:=(cs.drop o).take (n*k)
   if part.length=n*k∧part.all (fun x=>x.1== .fz)then
    let e':=E.aput (if YL (c.ix p) o part then .mm (c.ix p) o (n*k)else .ag (part.map (·.2))) j n k a.1
    (putM g p o ((List.range (n*k)).map fun i=>(CK.fz,E.fld e' i))).map fun k=> {d:= [(p,[],k)],ps:= [p],rb:= [],fz:= [],es:= [e']}
   else none
def Lh(c:Ctx)(g:Gam)(d:Nat)(T:TypeId)(parts:List (Nat×Operand)):Option MS:=
 (zm c.P T).bind fun fs=>(zeroCells c.P T).bind fun zs=>(Vr g [] zs parts fs).bind fun b=>
  let ts:=b.2.2
  if ts.any (fun t=>b.2.1.contains t||t==d|| !(g.at t).1.isEmpty)|| !Uf ts then none else
  some {d:=(d,[],.ags b.1)::ts.map fun t=>(t,[],.no),ps:=d::ts,rb:=d::ts,fz:=b.2.1,es:= [.ag (b.1.map (·.2))]}
def jN(c:Ctx)(g:Gam)(T:TypeId)(a x:Operand):Option MS:=
 if !okT c.P T|| !(Zn c.P T||c.P.cellsOf T==1)then none else
 match opK g [] a with
 | .mem _=>TP c g T (JY a) 0 x
 | .pm p o=>TP c g T p o x
 | .pe p i j o k=>Qq c g T p i j o k x
 | .pa p o j n k=>QE c g T p o j n k x
 |_=>none
def Qp(c:Ctx)(g0:Gam)(d:Nat)(T U:TypeId)(x y:Operand):Option MS:=
 match tdOf c.P T with
 | .sl el=>if T=U∧elOk c.P el=true then
   (opE g0 [] y).bind fun b0=>
    let b:=Tc (Xh c.P el) b0
    let g:=frz b.2 g0
    match x,opK g [] x with
    |_,.nil=>let e':=E.app (.c (.sl [])) b.1 (c.P.cellsOf el);some {d:= [(d,[],.own el e')],ps:= [d],rb:= [d],fz:=b.2,es:= [e']}
    | .tmp t,.own ty e=>if ty=el∧t≠d∧(g.at t).1= []then let e':=E.app e b.1 (c.P.cellsOf el);some {d:= [(d,[],.own ty e'),(t,[],.no)],ps:= [d,t],rb:= [d,t],fz:=b.2,es:= [e']}else none
    |_,.ref p=>(ownOf g p).bind fun x=>if x.1=el∧p≠d then let e':=E.app x.2 b.1 (c.P.cellsOf el);some {d:= [(d,[],.own x.1 e'),(p,[],.no)],ps:= [d,p],rb:= [d,p],fz:=b.2,es:= [e']}else none
    |_,.refm p i=>(memOf g p).bind fun cs=>match cs[i]? with
     |some (.own ty,e)=>if ty=el∧p≠d then let e':=E.app e b.1 (c.P.cellsOf el);(putM g p i [(.dead,.c (.sl []))]).map fun k=> {d:= [(d,[],.own ty e'),(p,[],k)],ps:= [d,p],rb:= [d],fz:=b.2,es:= [e']}else none
     |_=>none
    |_,_=>none
  else none
 |_=>none
def Z3A(c:Ctx)(g:Gam)(d:Nat)(T:TypeId)(x:Operand):Option MS:=
 match x,opK g [] x with
 | .tmp t,.own ty e=>if t≠d∧(g.at t).1= []then some {d:= [(d,[],.mem [(.own ty,e)]),(t,[],.no)],ps:= [d,t],rb:= [d,t],fz:= [],es:= []}else none
 | .tmp t,.ags cs=>if t≠d∧(g.at t).1= []then some {d:= [(d,[],.mem cs),(t,[],.no)],ps:= [d,t],rb:= [d,t],fz:= [],es:= []}else none
 |_,_=>none
def Z2S(g:Gam)(x:Operand):Option (Nat×Option Nat×TypeId×E):=
 match x,opK g [] x with
 | .tmp t,.own ty e=>if(g.at t).1= []then some (t,none,ty,e)else none
 |_,.ref p=>(ownOf g p).map fun y=>(p,none,y.1,y.2)
 |_,.refm p i=>(memOf g p).bind fun cs=>match cs[i]? with
  |some (.own ty,e)=>some (p,some i,ty,e)
  |_=>none
 |_,_=>none
def Z2y(g:Gam)(p:Nat)(i:Option Nat)(ty:TypeId)(e:E):Option TK:=
 match i with
 |none=>some (.own ty e)
 |some i=>putM g p i [(.own ty,e)]
def Z13(g:Gam)(T:TypeId)(m:Operand)(f:E→E):Option MS:=
 (Z2S g m).bind fun x=>if x.2.2.1=T then(Z2y g x.1 x.2.1 T (f x.2.2.2)).map fun k=> {d:= [(x.1,[],k)],ps:= [x.1],rb:= [],fz:= [],es:= [f x.2.2.2]}else none
def U9(c:Ctx)(g:Gam)(T:TypeId)(m k v:Operand):Option MS:=
 match c.P.underlying T with
 |some (.map kt _)=>(kcOf c.P kt).bind fun kc=>(opE g [] k).bind fun b=>(opE g [] v).bind fun a=>if !a.2.isEmpty then none else Z13 g T m fun e=> .mput kc e b.1 a.1
 |_=>none
def L7(c:Ctx)(g:Gam)(T:TypeId)(m:Operand):Option MS:=if Z0M c.P T then Z13 g T m .mclr else none
def mk(c:Ctx)(g:Gam)(o:Oper):Option MS:=
 match o.op,o.dst with
 | .assign x,some d=>TN c g o.type d x
 | .move x,some d=>TN c g o.type d x
 | .store T a x,none=>jN c g T a x
 | .build T parts,some d=>Lh c g d T parts.toList
 | .box T x,some d=>Z3A c g d T x
 | .mapUpdate T m k v,none=>U9 c g T m k v
 | .call {callee:= .builtin .clear,args,argTypes},none=>match args.toList,argTypes.toList with
   | [x],[T]=>L7 c g T x
   |_,_=>none
 | .call {callee:= .builtin .append,args,argTypes},some d=>match args.toList,argTypes.toList with
   | [x,y],[T,U]=>Qp c g d T U x y
   |_,_=>none
 |_,_=>none
def Qo(c:Ctx)(ops:Array Oper)(g:Gam)(o:Oper):Option Zg:=
 match o.guard with
 |none=>some []
 |some (j,want)=>((ops[j]?).bind (·.dst)).bind fun t=>match g.at t with
  | (C,.val (.s u) [])=>if u=c.ix t then some (C++ [(t,want)])else none
  |_=>none
def ixC(c:Ctx)(C:Zg):Zg:=C.map fun x=>(c.ix x.1,x.2)
def Z0i(c:Ctx)(g:Gam)(C:Zg)(x a b:Operand):PK:=
 match x,opK g C x with
 | .tmp t,.val (.s u) []=>if u≠c.ix t then none else(opE g (C++ [(t,true)]) a).bind fun y=>(opE g (C++ [(t,false)]) b).map fun z=>
   let e:=E.ite (.s (c.ix t)) y.1 z.1
   (.val e (y.2++z.2),[e])
 |_,_=>none
def Z08(g:Gam)(C:Zg)(o:Oper):Option (FN×List Nat×List Operand×List TypeId):=
 match o.op with
 | .call {callee:= .value (.func f),args,argTypes}=>some (.id f,[],args.toList,argTypes.toList)
 | .call {callee:= .value (.tmp t),args,argTypes}=>match opK g C (.tmp t)with
   | .val e sh=>some (.e e,sh,args.toList,argTypes.toList)
   |_=>none
 |_=>none
def Z1P(g:Gam)(t:Nat):Bool:=
 match(g.at t).2 with
 | .own .. | .mem _=>true
 |_=>false
def j0:TK→List Nat
 | .ref p| .refm p _| .pm p _| .pe p _ _ _ _| .pa p _ _ _ _=> [p]
 | .val _ sh| .pc _ _ sh| .big _ sh=>sh
 | .clo _ caps=>caps
 |_=> []
def Z5A(ops:Array Oper)(o:Oper):List Nat:=
 match o.guard with
 |none=> []
 |some (j,_)=>((ops[j]?).bind (·.dst)).toList
def Sd(ops:Array Oper)(g:Gam)(o:Oper):List Nat:=
 let ts:=(o.op.operands.toList.filterMap fun x=>match x with| .tmp t=>some t|_=>none)++Z5A ops o++o.dst.toList
 let us:=ts++ts.flatMap fun t=>j0 (g.at t).2
 us++us.flatMap fun t=>j0 (g.at t).2
def only(g:Gam)(R:List Nat):Gam:=R.map fun t=>(t,g.at t)
def RP(c:Ctx):FN→Bool
 | .id f=>c.fresh f
 | .e _=>false
def J1(c:Ctx)(g:Gam)(C:Zg)(ty:TypeId)(d:Nat)(f:FN)(sh:List Nat)(args:List Operand)(ts:List TypeId):Option OS:=
 if !(g.at d).2.isNo then none else(Z0g c.P g C args ts).map fun as=>
  let fl:=(!(as.2.1++sh).isEmpty||as.2.2)&& !RP c f&&Xh c.P ty
  {d:= [(d,C,if as.2.2&& !(fl||RP c f)then .big (.s (c.ix d)) (as.2.1++sh)else .val (.s (c.ix d)) (if fl||RP c f then []else as.2.1++sh))],ps:= [d],rb:= [d],fz:= [],efs:= [.call (c.ix d) (ixC c C) f (RP c f) fl as.1],chks:= []}
inductive AP where
 |op (x:Operand) (ty:TypeId)
 |cap (p:Nat)
 deriving Inhabited
def leCK(P:Program):CK→CK→Bool
 | .own a,.own b=>a==b
 | .nil,.own a=>decide (0<P.cellsOf a)
 | .nil,.nil| .nil,.fz| .fz,.fz| .own _,.fz=>true
 |_,.dead=>true
 |_,_=>false
def qn(P:Program):List CK→List CK→Bool
 | [],[]=>true
 |a::l,b::r=>leCK P a b&&qn P l r
 |_,_=>false
def RR(P:Program):List CK→List CK→Bool
 | [],[]=>true
 |a::l,b::r=>(a==b||(match a,b with| .nil,.own ty=>decide (0<P.cellsOf ty) | .nil,.fz=>true|_,_=>false))&&RR P l r
 |_,_=>false
def Z3q(g:Gam)(C:Zg):AP→Option Nat
 | .cap p=>some p
 | .op (.tmp t) _=>match opK g C (.tmp t)with
   | .mem _=>some t
   | .pm p 0=>some p
   |_=>none
 |_=>none
def Z50(g:Gam)(C:Zg):AP→Option Nat
 | .op (.tmp t) _=>match opK g C (.tmp t)with
   | .own _ _=>some t
   | .ref p=>some p
   |_=>none
 |_=>none
def V3(c:Ctx)(g:Gam)(C:Zg)(k:OT)(x:AP):Option (E×Option Nat):=
 match k with
 | .fz=>match x with
   | .op x ty=>(opE g C x).bind fun a0=>let a:=flE (Xh c.P ty) a0;if a.2.isEmpty then some (a.1,none)else none
   | .cap _=>none
 | .mem l=>(Z3q g C x).bind fun p=>(memOf g p).bind fun cs=>
   if !ZV cs&&RR c.P (cs.map (·.1)) l then some (.ag (cs.map (·.2)),some p)else none
 | .own ty=>(Z50 g C x).bind fun p=>(ownOf g p).bind fun y=>if y.1=ty then some (y.2,some p)else none
 |_=>none
def Xx(c:Ctx)(g:Gam)(C:Zg):List OT→List AP→Option (List (E×Option Nat))
 | [],[]=>some []
 |k::ks,x::l=>(V3 c g C k x).bind fun a=>(Xx c g C ks l).map (a:: ·)
 |_,_=>none
def newK(i q:Nat):OT→TK
 | .mem l=> .mem (l.zipIdx.map fun x=>(x.1,.fld (.ext (.s i) q) x.2))
 | .own ty=> .own ty (.ext (.s i) q)
 |_=> .no
def Xj(i:Nat):Nat→List OT→List (E×Option Nat)→Gam
 |q,k::ks,(_,some p)::l=>(p,[],newK i q k)::Xj i (q+1) ks l
 |q,_::ks,(_,none)::l=>Xj i q ks l
 |_,_,_=> []
def SB(c:Ctx)(g all:Gam)(C:Zg)(d:Nat)(fn:FN)(ks:List OT)(aps:List AP):Option OS:=
 if !(g.at d).2.isNo then none else(Xx c g C ks aps).bind fun as=>
  let ps:=as.filterMap (·.2)
  if !Uf ps||ps.contains d then none else
  some {d:=(d,C,.val (if ps.isEmpty then .s (c.ix d)else .ext (.s (c.ix d)) 0) [])::Xj (c.ix d) 1 ks as++XK (d::ps) [d] [] all,ps:=d::ps,rb:= [d],fz:= [],
        efs:= [.callm (c.ix d) (ixC c C) fn ks (as.map (·.1))],chks:= []}
def VX(args:List Operand)(ts:List TypeId):List AP:=
 match args,ts with
 |x::l,t::r=> .op x t::VX l r
 |x::l,[]=> .op x 0::VX l []
 | [],_=> []
def Ld(c:Ctx)(g:Gam)(C:Zg)(o:Oper):Option (FN×List OT×List AP):=
 match o.op with
 | .call {callee:= .value (.func f),args,argTypes}=>(c.sig f).map fun ks=>(.id f,ks,VX args.toList argTypes.toList)
 | .call {callee:= .value (.tmp t),args,argTypes}=>match opK g C (.tmp t)with
   | .clo f caps=>(c.sig f).map fun ks=>(.id f,ks,VX args.toList argTypes.toList++caps.map .cap)
   | .val e _=>(c.sig (1000000+argTypes.toList.headD 0)).map fun ks=>(.e e,ks,VX args.toList argTypes.toList)
   |_=>none
 |_=>none
def Z1C(g:Gam)(o:Oper):Bool:=match o.dst with|some d=>Z1P g d|none=>true
def Z5T(g:Gam)(o:Oper):Bool:=match o.dst with|some d=> !(g.at d).2.isNo|none=>true
def Z5E(o:Oper)(ps:List Nat):Bool:=match o.dst with|some d=>ps.contains d|none=>true
def Z2G(c:Ctx)(o:Oper):Bool:=match o.dst with|some d=> !decide (d<c.n) |none=>false
def pkOf(c:Ctx)(g:Gam)(C:Zg)(o:Oper):PK:=
 match o.op with
 | .pick x a b=>Z0i c g C x a b
 | .assign _=>if Z1C g o then none else pk c g C o
 | .move _=>if Z5T g o then none else pk c g C o
 |_=>pk c g C o
def jr(c:Ctx)(lets:List Nat)(g:Gam)(C:Zg)(d:Nat)(k:TK)(es:List E):Option OS:=
 if lets.contains d then
  match k with
  | .val e []=>if !(g.at d).2.isNo then none else some {d:= [(d,C,.val (.s (c.ix d)) [])],ps:= [d],rb:= [d],fz:= [],efs:= [.lt (c.ix d) (ixC c C) e],chks:=es.map fun e=>(ixC c C,e)}
  |_=>none
 else if Xf d k||leads d k then none else some {d:= [(d,C,k)],ps:= [d],rb:= [d],fz:= [],efs:= [],chks:=es.map fun e=>(ixC c C,e)}
def Z3p(g all:Gam)(m:MS):OS:= {d:=m.d++XK m.ps m.rb m.fz all++YU m.fz g,ps:=m.ps,rb:=m.rb,fz:=m.fz,efs:= [],chks:=m.es.map fun e=>([],e)}
def R0(c:Ctx)(lets:List Nat)(ops:Array Oper)(all:Gam)(o:Oper):Option OS:=
 let g:=only all (Sd ops all o)
 if Z2G c o then none else
 (Qo c ops g o).bind fun C=>
 match Ld c g C o,o.dst with
 |some (fn,ks,aps),some d=>SB c g all C d fn ks aps
 |some _,none=>none
 |none,_=>
 match Z08 g C o,o.dst with
 |some (f,sh,args,ts),some d=>J1 c g C o.type d f sh args ts
 |some _,none=>none
 |none,_=>match pkOf c g C o,o.dst with
  |some (k,es),some d=>jr c lets g C d k es
  |_,_=>if o.guard.isSome then none else(mk c g o).bind fun m=>if m.ps.all (fun p=>(Zu m.d).contains p)&&m.rb.all (fun p=>m.ps.contains p)&&Z5E o m.ps then some (Z3p g all m)else none
def Z1r(ops:Array Oper):List Nat:=
 ops.toList.filterMap fun o=>match o.op,o.dst with
  | .assign (.tmp t),some _=>some t
  | .store _ _ (.tmp t),_=>some t
  | .call {callee:= .builtin .append,args, .. },_=>match args.toList with| .tmp t::_=>some t|_=>none
  |_,_=>none
def j5(ops:Array Oper):List Nat:=
 let l:=Z1r ops
 l++ops.toList.flatMap fun o=>match o.op,o.dst with
  | .build _ parts,some d=>if l.contains d then parts.toList.filterMap fun x=>match x.2 with| .tmp t=>some t|_=>none else []
  |_,_=> []
def ym(ops:Array Oper):List Nat:=
 ops.toList.filterMap fun o=>match o.guard with
  |some (j,_)=>(ops[j]?).bind (·.dst)
  |none=>none
structure XS where
 os:OS
 R:List Nat
 T:List Nat
 deriving Inhabited
def Tof(xs:List XS)(e:Nat):List Nat:=match xs[e]? with|some x=>x.T|none=> []
def YX(o:Oper):List Nat:=(o.after.toList.filter fun e=>Region.binds .any e).map (·.on)
def qz(draw:Bool)(xs:List XS)(o:Oper):List Nat:=
 if draw then(List.range xs.length).filter fun j=>(YX o).any fun e=>e==j||(Tof xs e).contains j
 else List.range xs.length
def UP(c:Ctx)(draw:Bool)(lets:List Nat)(ops:Array Oper):List Oper→Gam→List XS→Option (Gam×List XS)
 | [],g,xs=>some (g,xs)
 |o::l,g,xs=>if draw&& !(YX o).all (fun e=>decide (e<xs.length))then none else(R0 c lets ops g o).bind fun os=>UP c draw lets ops l (os.d++g) (xs++ [{os,R:=Sd ops g o,T:=qz draw xs o}])
def SU(os:OS)(g:Gam):Bool:=g.all fun x=>(Zu os.d).contains x.1||calm os.ps os.rb os.fz x.2.2
def jt(a b:List Nat):Bool:=a.all fun t=> !b.contains t
def zC(x:XS)(i:Nat)(y:XS)(j:Nat):Bool:=
 j==i||((y.T.contains i||SU x.os y.os.d)&&(x.T.contains j||y.T.contains i||(jt (Zu y.os.d) (Zu x.os.d)&&jt (Zu y.os.d) x.R)))
def Qf(g0:Gam)(xs:List XS):Bool:=
 xs.zipIdx.all fun x=>(x.1.os.ps.all fun p=>(Zu x.1.os.d).contains p)&&(x.1.os.fz.all fun p=>(Zu x.1.os.d).contains p)&&SU x.1.os g0&&
  (x.1.T.all fun j=>j<x.2)&&xs.zipIdx.all fun y=>zC x.1 x.2 y.1 y.2
abbrev SS:=List (Nat×OT)
def jp(c:Ctx)(t:Nat):OT→TK
 | .fz=> .val (.s (c.ix t)) []
 | .own ty=> .own ty (.s (c.ix t))
 | .nil=> .nil
 | .mem l=> .mem (l.zipIdx.map fun x=>(x.1,.m (c.ix t) x.2))
 | .clo f caps=> .clo f caps
def ZZ(c:Ctx)(S:SS):Gam:=S.map fun x=>(x.1,[],jp c x.1 x.2)
def outK:TK→Option OT
 | .val _ _=>some .fz
 | .own ty _=>some (.own ty)
 | .nil=>some .nil
 | .mem cs=>some (.mem (cs.map (·.1)))
 | .clo f caps=>some (.clo f caps)
 |_=>none
def XB(keep:List Nat)(g:Gam):List Nat:=keep.flatMap fun t=>match g.at t with
 | ([],.val _ sh)=>sh
 |_=> []
def ovK:TK→OV
 | .val e _=> .v e
 | .own _ e=> .v e
 | .nil=> .v (.c (.sl []))
 | .mem cs=> .m (cs.map (·.2))
 |_=> .no
def Uj(i:Nat):OV→Bool
 | .v (.s j)=>i==j
 | .m l=>(l.zipIdx.all fun x=>match x.1 with| .m j k=>i==j&&k==x.2|_=>false)
 |_=>false
def KA(keep:List Nat)(g:Gam):SS:=keep.filterMap fun t=>if(g.at t).1.isEmpty then(outK (g.at t).2).map fun k=>(t,k)else none
def SS.at(S:SS)(t:Nat):Option OT:=
 match S with
 | []=>none
 | (u,x)::r=>if u=t then some x else SS.at r t
def VJ(c:Ctx)(S:SS)(g:Gam)(t:Nat):Option (Nat×OV):=
 let o:=if(g.at t).1.isEmpty then ovK (g.at t).2 else .no
 if Uj (c.ix t) o then none
 else match S.at t,(g.at t).2 with
  |some .nil,.nil=>none
  |none,.no=>none
  |_,_=>some (c.ix t,o)
def Z4m(c:Ctx)(S:SS)(keep:List Nat)(g:Gam):List (Nat×OV):=keep.filterMap (VJ c S g)
def efE:EF→List (Zg×E)
 | .lt _ C e=> [(C,e)]
 | .call _ C f _ _ as=>(f.es++as).map fun e=>(C,e)
 | .callm _ C f _ as=>(f.es++as).map fun e=>(C,e)
def ovE:OV→List E
 | .v e=> [e]
 | .m l=>l
 | .no=> []
def jc(l:List (Zg×E))(x:Zg×E):Bool:=l.any fun y=>U0 y.1 x.1&&E.has x.2 y.2
def Z1B:List (Zg×E)→List (Zg×E)→List (Zg×E)
 |_,[]=> []
 |l,x::r=>let q:=Z1B l r;if jc (l++q) x then q else x::q
def efI:EF→Nat
 | .lt i _ _=>i
 | .call i _ _ _ _ _=>i
 | .callm i _ _ _ _=>i
mutual
def E.asks(t:Nat):E→Bool
 | .s u=>t==u
 | .m u _=>t==u
 | .mm u _ _=>t==u
 | .bin _ a b| .eqv _ a b| .mn a b| .mx a b=>E.asks t a||E.asks t b
 | .idx a b _| .ai a b _ _ _| .slcl a b _| .app a b _=>E.asks t a||E.asks t b
 | .lk _ a b _ _=>E.asks t a||E.asks t b
 | .mput _ a b d=>E.asks t a||E.asks t b||E.asks t d
 | .mlen a| .mclr a=>E.asks t a
 | .un _ a| .conv _ a| .len a| .ext a _| .fld a _| .flds a _ _| .mk _ a| .star a| .isag a| .one a| .sz a _| .fl a| .fls a=>E.asks t a
 | .slc a b d _| .upd a b _ d| .aput a b _ _ d| .ite a b d=>E.asks t a||E.asks t b||E.asks t d
 | .lit l| .ag l| .pt _ l=>E.asksIn t l
 | .c _=>false
def E.asksIn(t:Nat):List E→Bool
 | []=>false
 |a::l=>E.asks t a||E.asksIn t l
end
def Yd(t:Nat):EF→Bool
 | .lt _ C e=>C.any (fun x=>x.1==t)||E.asks t e
 | .call _ C f _ _ as=>C.any (fun x=>x.1==t)||E.asksIn t (f.es++as)
 | .callm _ C f _ as=>C.any (fun x=>x.1==t)||E.asksIn t (f.es++as)
def Z2t:List EF→Bool
 | []=>true
 |x::l=> !Yd (efI x) x&&l.all (fun y=>efI y !=efI x&& !Yd (efI y) x)&&Z2t l
def Z7h(fix:List Nat)(ops:Array Oper):Bool:=ops.toList.all fun o=>match o.dst with
 |some d=> !fix.contains d
 |none=>true
def Ls(P:Program)(ix:Nat→Nat)(fresh:FuncId→Bool)(sig:FuncId→Option (List OT))(tr fix:List Nat)(n:Nat)(keep:List Nat)(draw:Bool)(ops:Array Oper)(S:SS):Option (Reg×SS):=
 let uses:=j5 ops
 let c:Ctx:= {P,ix,own:=fun t=>uses.contains t,fresh,sig,tr,n}
 let g0:=ZZ c S
 (UP c draw (ym ops) ops ops.toList g0 []).bind fun r=>
  let sh:=XB keep r.1
  let g:=frz sh r.1
  let outs:=Z4m c S keep g
  let efs:=r.2.flatMap fun x=>x.os.efs
  let chks:=r.2.flatMap fun x=>x.os.chks
  let asked:=(efs.flatMap efE)++(outs.flatMap fun x=>(ovE x.2).map fun e=>(([]:Zg),e))
  if Z7h fix ops&&Qf g0 r.2&&Z2t efs&&(efs.all fun x=>S.all fun y=>c.ix y.1 !=efI x)then
   some ({efs,chks:=Z1B asked chks,outs},KA keep g)
  else none
end Vm
namespace Vm
open Go
inductive Stm where
 |reg (r:Reg)
 |skip
 |seq (a b:Stm)
 |cond (c:E) (a b:Stm)
 |block (id:Nat) (a:Stm)
 |loop (keep:List Nat) (a:Stm)
 |exit (id:Nat)
 |ret
 deriving Inhabited
def LG(ops:Array Oper):List Oper→List Nat→List Nat
 | [],_=> []
 |o::l,seen=>
  (o.op.operands.toList.filterMap fun x=>match x with| .tmp t=>if seen.contains t then none else some t|_=>none)++
  LG ops l (match o.dst with|some d=>d::seen|none=>seen)
def LW(ops:Array Oper):List Nat:=
 ops.toList.filterMap fun o=>match o.dst,o.op with
  |some d,.assign _|some d,.alloc _|some d,.box _ _=>some d
  |_,_=>none
def zS(ops:Array Oper):List Nat:=
 ops.toList.filterMap fun o=>match o.dst,o.op with
  |some d,.call {callee:= .value _, .. }=>some d
  |some d,_=>if(ym ops).contains d then some d else none
  |none,_=>none
def Yl(f:Array Oper→List Nat):Code→List Nat
 | .region _ ops _=>f ops
 | .seq a b=>Yl f a++Yl f b
 | .cond (.tmp t) a b=>t::Yl f a++Yl f b
 | .cond _ a b=>Yl f a++Yl f b
 | .block _ a| .loop a| .scope a=>Yl f a
 |_=> []
def jR:List Nat→List Nat→List Nat
 |acc,[]=>acc.reverse
 |acc,t::l=>jR (if acc.contains t then acc else t::acc) l
def pos:List Nat→Nat→Nat
 | [],_=>0
 |u::l,t=>if u=t then 0 else pos l t+1
def leOT(P:Program):OT→OT→Bool
 | .own a,.own b=>a==b
 | .nil,.own a=>decide (0<P.cellsOf a)
 | .nil,.nil| .nil,.fz| .fz,.fz| .own _,.fz=>true
 | .mem a,.mem b=>qn P a b
 | .clo f a,.clo g b=>f==g&&a==b
 |_,_=>false
def leSS(P:Program)(S R:SS):Bool:=R.all fun x=>match S.at x.1 with|some k=>leOT P k x.2|none=>false
def leO(P:Program)(S:Option SS)(R:Option SS):Bool:=match S,R with|none,_=>true|some S,some R=>leSS P S R|some _,none=>false
def Z40(P:Program):CK→CK→CK
 |a,b=>if leCK P a b then b else if leCK P b a then a else match a,b with| .dead,_|_,.dead=> .dead|_,_=> .fz
def Z4u(P:Program):OT→OT→Option OT
 | .mem a,.mem b=>if a.length=b.length then some (.mem ((a.zip b).map fun x=>Z40 P x.1 x.2))else none
 | .mem _,_|_,.mem _=>none
 |a,b=>if leOT P a b then some b else if leOT P b a then some a else some .fz
def Z2J(P:Program)(S R:SS):SS:=S.filterMap fun x=>(R.at x.1).bind fun k=>(Z4u P x.2 k).map fun k=>(x.1,k)
def Z1T(P:Program):Option SS→Option SS→Option SS
 |none,b=>b
 |a,none=>a
 |some a,some b=>some (Z2J P a b)
def LK(P:Program):List SS→Option SS
 | []=>none
 |S::l=>Z1T P (some S) (LK P l)
structure Flow where
 n:Option SS
 x:List (Nat×SS)
 r:List SS
structure FC where
 P:Program
 ix:Nat→Nat
 fresh:FuncId→Bool
 sig:FuncId→Option (List OT)
 tr:List Nat
 fix:List Nat
 n:Nat
 keep:List Nat
def Z7F(S:SS):SS:=S.map fun x=>(x.1,match x.2 with| .mem l=> .mem (l.map fun k=>match k with| .own _=> .fz|k=>k) |k=>k)
def jE(P:Program)(f:SS→Option (Stm×Flow)):Nat→SS→Option SS
 |0,S=>some S
 |k+1,S=>match f S with
  |none=>jE P f k (Z7F S)
  |some x=>match x.2.n with
  |none=>some S
  |some R=>if leSS P R S then some S else jE P f k (Z2J P S R)
def comp(c:FC):Code→SS→Option (Stm×Flow)
 | .skip,S| .label _,S=>some (.skip,⟨some S,[],[]⟩)
 | .region _ ops draw,S=>(Ls c.P c.ix c.fresh c.sig c.tr c.fix c.n c.keep draw ops S).map fun x=>(.reg x.1,⟨some x.2,[],[]⟩)
 | .seq a b,S=>(comp c a S).bind fun x=>match x.2.n with
   |none=>some x
   |some R=>(comp c b R).map fun y=>(.seq x.1 y.1,⟨y.2.n,x.2.x++y.2.x,x.2.r++y.2.r⟩)
 | .cond (.tmp t) a b,S=>if S.at t=some .fz then(comp c a S).bind fun x=>(comp c b S).bind fun y=>
   let M:=Z1T c.P x.2.n y.2.n
   if leO c.P x.2.n M&&leO c.P y.2.n M then some (.cond (.s (c.ix t)) x.1 y.1,⟨M,x.2.x++y.2.x,x.2.r++y.2.r⟩)else none else none
 | .block id a,S=>(comp c a S).bind fun x=>
   let M:=Z1T c.P x.2.n (LK c.P ((x.2.x.filter fun y=>y.1==id).map (·.2)))
   if leO c.P x.2.n M&&x.2.x.all (fun y=>y.1 !=id||leO c.P (some y.2) M)then
    some (.block id x.1,⟨M,x.2.x.filter fun y=>y.1 !=id,x.2.r⟩)else none
 | .loop a,S=>(jE c.P (comp c a) 4 S).bind fun H=>(comp c a H).bind fun x=>
   if leSS c.P S H&&leO c.P x.2.n (some H)then some (.loop (H.map fun y=>c.ix y.1) x.1,⟨none,x.2.x,x.2.r⟩)else none
 | .exit id,S=>some (.exit id,⟨none,[(id,S)],[]⟩)
 | .scope a,S=>comp c a S
 | .ret,S=>some (.ret,⟨none,[],[S]⟩)
 |_,_=>none
inductive RK where
 |v|ag (n:Nat) |one
 deriving Inhabited
structure Fn where
 n:Nat
 keep:List Nat
 body:Stm
 res:List (Nat×RK)
 deriving Inhabited
def Z0f(P:Program)(ix:Nat→Nat)(f:Func):List (Nat×RK):=
 f.results.toList.map fun r=>match r with| .tmp t=>(ix t,.v) | .cell a t=>(ix a,if Zn P t then .ag (P.cellsOf t)else .one)
def qQ(P:Program)(S:SS):ResultVar→Bool
 | .tmp t=>match S.at t with|some (.mem _) |some (.clo _ _) |none=>false|_=>true
 | .cell t ty=>match S.at t with|some (.mem l)=>okT P ty&&l.all (fun k=>k != .dead)&&(if Zn P ty then l.length==P.cellsOf ty else decide (0<l.length)) |_=>false
def Ve(ks:List OT):SS:=ks.zipIdx.filterMap fun x=>match x.1 with
 | .fz=>none
 |k=>some (x.2,k)
def Ta:ResultVar→Nat
 | .tmp t=>t
 | .cell t _=>t
def qy(P:Program)(f:Func)(fin:SS)(S:SS):Bool:=f.results.toList.all (qQ P S)&&leSS P S fin
def Z11(f:Func)(fin:SS):Bool:=f.results.toList.all fun r=>(fin.at (Ta r)).isNone
def Z5O(P:Program)(f:Func)(fin:SS):Option SS→Bool
 |some R=>qy P f fin R
 |none=>true
def Z5D(P:Program)(ix:Nat→Nat)(f:Func)(ks:List OT)(fin:SS)(fl:Flow):Bool:=
 Z5O P f fin fl.n&&fl.r.all (qy P f fin)&&fl.x.isEmpty&&(List.range ks.length).all (fun t=>ix t==t)
def LN(ks:List OT):List Nat:=(Ve ks).map (·.1)
def trOf(f:Func):List Nat:=f.results.toList.filterMap fun r=>match r with
 | .tmp t=>some t
 |_=>none
def Zc(P:Program)(fresh:FuncId→Bool)(sig:FuncId→Option (List OT))(ks:List OT)(fin:SS)(f:Func):Option Fn:=
 f.body.bind fun code=>
  let keep:=jR [] ((List.range ks.length)++Yl (fun ops=>LW ops++LG ops ops.toList []) code)
  let ix:=pos (keep++jR [] ((Yl zS code).filter fun t=> !keep.contains t))
  let S:SS:=ks.zipIdx.map fun x=>(x.2,x.1)
  (comp {P,ix,fresh,sig,tr:=trOf f,fix:=LN ks,n:=f.ntmps,keep} code S).bind fun x=>
   if Z5D P ix f ks fin x.2 then
    some {n:=keep.length,keep,body:=x.1,res:=Z0f P ix f}
   else none
end Vm
namespace Vm
open Go
structure GH where
 F:Nat→Prop
 bl:Nat→Nat→Option Nat
 K:Nat→Prop
structure Ok (B:Nat) (G:Nat→Prop) (w:World) (h:GH):Prop where
 base:B≤w.heap.size
 f_lt: ∀b,h.F b→b<w.heap.size
 f_or: ∀b,h.F b→G b∨B≤b
 g_F: ∀b,G b→h.F b
 b_lt: ∀t i b,h.bl t i=some b→B≤b∧b<w.heap.size∧ ¬h.F b
 inj: ∀t i u j b,h.bl t i=some b→h.bl u j=some b→t=u∧i=j
 k_lt: ∀b,h.K b→b<w.heap.size
 k_bl: ∀t i b,h.bl t i=some b→ ¬h.K b
 k_F: ∀b,h.F b→G b∨ ¬h.K b
def GH.exb(h:GH)(big:Bool)(sh:List Nat)(b:Nat):Prop:=h.F b∨ ∃p∈sh,∃i,(big=true∨0<i)∧h.bl p i=some b
def GH.ext(h:GH)(sh:List Nat)(b:Nat):Prop:=h.F b∨ ∃p∈sh,∃i,h.bl p (i+1)=some b
theorem GH.ext_F{h:GH}{sh:List Nat}{b:Nat}(hb:h.F b):h.ext sh b:= .inl hb
theorem GH.ext_nil{h:GH}{b:Nat}(hb:h.ext [] b):h.F b:=by
 rcases hb with hb| ⟨p,hp,_⟩
 ·exact hb
 ·simp at hp
theorem GH.ext_left{h:GH}{sh r:List Nat}{b:Nat}(hb:h.ext sh b):h.ext (sh++r) b:=by
 rcases hb with hb| ⟨p,hp,x⟩
 ·exact .inl hb
 ·exact .inr ⟨p,by simp[hp],x⟩
theorem GH.ext_right{h:GH}{sh r:List Nat}{b:Nat}(hb:h.ext r b):h.ext (sh++r) b:=by
 rcases hb with hb| ⟨p,hp,x⟩
 ·exact .inl hb
 ·exact .inr ⟨p,by simp[hp],x⟩
def OwnL(P:Program)(B:Nat)(w:World)(h:GH)(o:Option Nat)(ty:TypeId)(x:V)(v:Value):Prop:=
 ∃l xs,x= .sl l∧0<P.cellsOf ty∧(∀y∈l,y.fits (P.cellsOf ty))∧w.ownsRow B ty (P.cellsOf ty) v l.length xs∧v.ownBlock=o∧
  ∀(i:Nat) (c:V),(flat l)[i]? =some c→ ∃u,xs[i]? =some u∧Rd w h.F c u
def OwnM(B:Nat)(w:World)(h:GH)(o:Option Nat)(x:V)(v:Value):Prop:=
 ∃id ks xs b es clk,x= .mp id ks xs∧v= .map (some b)∧o=some b∧B≤b∧(id=0∨id=b+1)∧w.heap[b]? =some (.map es clk)∧ks.length=es.size∧xs.length=es.size∧
  (∀(i:Nat) (c:V),ks[i]? =some c→Rd w h.F c (es.getD i default).key)∧ ∀(i:Nat) (c:V),xs[i]? =some c→Rd w h.F c (es.getD i default).val
def OwnV(P:Program)(B:Nat)(w:World)(h:GH)(o:Option Nat)(ty:TypeId)(x:V)(v:Value):Prop:=OwnL P B w h o ty x v∨OwnM B w h o x v
def plI:Option Nat→Nat
 |none=>1
 |some i=>i+1
def RelC(P:Program)(B:Nat)(s:St)(w:World)(h:GH)(o:Option Nat)(k:CK)(e:E)(v:Value):Prop:=
 match k with
 | .fz=> ∃x,eval s e=some x∧x.one=true∧Rd w h.F x v
 | .own ty=> ∃x,eval s e=some x∧OwnV P B w h o ty x v
 | .nil=>v= .slice none 0 0∧eval s e=some (.sl [])
 | .dead=>v.oneCell'=true
def RelCs(P:Program)(B:Nat)(s:St)(w:World)(h:GH)(t:Nat)(cs:List (CK×E))(vs:Array Value):Prop:=
 vs.size=cs.length∧ ∀i c,cs[i]? =some c→RelC P B s w h (h.bl t (i+1)) c.1 c.2 (vs.getD i undef)
def RelK(P:Program)(B:Nat)(s:St)(w:World)(h:GH)(tm:Nat→Option Value)(t:Nat)(v:Value):TK→Prop
 | .no=>True
 | .val e sh=> ∃x,eval s e=some x∧Rd w (h.ext sh) x v
 | .own ty e=> ∃x,eval s e=some x∧OwnV P B w h (h.bl t 1) ty x v
 | .nil=>v= .slice none 0 0
 | .mem cs=> ∃b vs T,h.bl t 0=some b∧v= .pointer (some ⟨b,0,none⟩)∧w.heap[b]? =some (.cells vs T (0,0))∧RelCs P B s w h t cs vs
 | .ags cs=> ∃vs,v= .agg vs∧RelCs P B s w h t cs vs
 | .ref p=>tm p=some v
 | .refm p i=> ∃b,h.bl p 0=some b∧w.cell? ⟨b,i,none⟩=some v
 | .pm p o=> ∃b,h.bl p 0=some b∧v= .pointer (some ⟨b,o,none⟩)
 | .pc e o sh=> ∃x b q,∃vs:Nat→Value,eval s e=some x∧v= .pointer (some ⟨b,q+o,none⟩)∧h.ext sh b∧(∀c∈x.pc,c.one=true)∧
   (∀i,i<x.pc.length→w.cell? ⟨b,q+i,none⟩=some (vs i))∧ ∀i c,x.pc[i]? =some c→Rd w (h.ext sh) c (vs i)
 | .pe p i j o k=> ∃n q,h.bl p (plI i)=some n∧(∃ki,eval s j=some (.int ki (q:Nat)))∧v= .pointer (some ⟨n,q*k+o,none⟩)
 | .pa p o j n k=> ∃b q,h.bl p 0=some b∧(∃ki,eval s j=some (.int ki (q:Nat)))∧q<n∧v= .pointer (some ⟨b,o+q*k,none⟩)
 | .big e sh=> ∃x,eval s e=some x∧Rd w (h.exb true sh) x v
 | .clo f caps=> ∃vs:Array Value,v= .func (.func f) #[] vs∧vs.size=caps.length∧ ∀(i p:Nat),caps[i]? =some p→ ∃b,h.bl p 0=some b∧vs[i]? =some (.pointer (some ⟨b,0,none⟩))
def holds(s:St)(C:Zg):Prop:= ∀x∈C,get s x.1= .v (.bool x.2)
theorem Ws(s:St):holds s []:=fun _ h=>by simp at h
theorem V9{s:St}{C D:Zg}:holds s (C++D)↔holds s C∧holds s D:=by
 unfold holds;constructor
 ·intro h;exact⟨fun x hx=>h x (by simp[hx]),fun x hx=>h x (by simp[hx])⟩
 ·rintro⟨h1,h2⟩ x hx;rcases Z90.1 hx with hx|hx
  ·exact h1 x hx
  ·exact h2 x hx
theorem Z1k{s:St}{c:Ctx}{C D:Zg}(h:U0 C D=true)(hd:holds s (ixC c D)):holds s (ixC c C):=by
 intro x hx;simp only[ixC,Z8S]at hx;obtain⟨y,hy,rfl⟩:=hx;refine hd (c.ix y.1,y.2) ?_;simp only[U0,Z8A]at h;have:=h y hy;simp only[ixC,Z8S];exact⟨y,by simpa using this,rfl⟩
structure RelG (c:Ctx) (B:Nat) (G:Nat→Prop) (s:St) (a:Act) (w:World) (h:GH) (g:Gam):Prop where
 ok:Ok B G w h
 at_: ∀t,holds s (ixC c (g.at t).1)→(g.at t).2.isNo=false→ ∃v,a.tmps[t]? =some v∧RelK c.P B s w h (fun p=>a.tmps[p]?) t v (g.at t).2
 skip: ∀t,¬holds s (ixC c (g.at t).1)→a.tmps.getD t undef=undef
theorem Act.eval_tmp(a:Act)(t:Nat)(v:Value)(h:a.tmps[t]? =some v):a.eval (.tmp t)=v:=by
 simp only[Act.eval,Z8q,h,Z91]
theorem Js{g:Gam}{C:Zg}{t:Nat}{k:TK}(h:look g C t=k)(hk:k.isNo=false):(g.at t).2=k∧U0 (g.at t).1 C=true:=by
 unfold look at h;simp only at h;split at h
 ·exact⟨h,by assumption⟩
 ·subst h;simp[TK.isNo]at hk
section
variable {c:Ctx} {B:Nat} {G:Nat→Prop} {s:St} {a:Act} {w:World} {h:GH} {g:Gam} {C:Zg}
theorem RelG.look(hr:RelG c B G s a w h g)(hC:holds s (ixC c C)){t:Nat}{k:TK}(hl:look g C t=k)(hk:k.isNo=false):
  ∃v,a.tmps[t]? =some v∧RelK c.P B s w h (fun p=>a.tmps[p]?) t v k∧(g.at t).2=k:=by
 obtain⟨h1,h2⟩:=Js hl hk;obtain⟨v,hv,hrel⟩:=hr.at_ t (Z1k h2 hC) (by rw[h1];exact hk);exact⟨v,hv,by rw[h1]at hrel;exact hrel,h1⟩
theorem TI{v:Value}{x:V}(hv:VG v=some x)(w:World)(G:Nat→Prop):Rd w G x v:=by
 unfold VG at hv
 split at hv<;>first
  | (simp only[Z8l]at hv;subst hv;first|exact .int _ _|exact .bool _|exact .str _|exact .nil _ _ (Z9n _) |exact .nomp|exact .nul0|exact .nul1)
  | (split at hv<;>first
    | (rename_i hs
       simp only[Z8l]at hv;subst hv;rw[Z9k hs.1,Z9k hs.2];exact .fn _)
    |simp at hv)
  |simp at hv
theorem Sn{v:Value}{x:V}(hv:VG v=some x):x.one=true:=by
 unfold VG at hv
 split at hv<;>first
  | (simp only[Z8l]at hv;subst hv;rfl)
  | (split at hv<;>first| (simp only[Z8l]at hv;subst hv;rfl) |simp at hv)
  |simp at hv
theorem OwnV.rd{P:Program}{o:Option Nat}{ty:TypeId}{x:V}{v:Value}(hv:OwnV P B w h o ty x v){G':Nat→Prop}(hF: ∀b,h.F b→G' b)(ho: ∀b,o=some b→G' b):Rd w G' x v:=by
 rcases hv with ⟨l,xs,rfl,h0,hfit,hown,hb,hrd⟩ | ⟨id,ks,xs,b,es,clk,rfl,rfl,rfl,_,hid,hh,hk1,hx1,hk2,hx2⟩
 case inr=>exact .mp id ks xs b clk es hid (ho b rfl) hh hk1 hx1 (fun i c hi=>(hk2 i c hi).mono hF) fun i c hi=>(hx2 i c hi).mono hF
 obtain⟨hlen,hc⟩:=hown;rcases hc with ⟨rfl,hn⟩ | ⟨b,cap,cur,rfl,_,hh,hle,hcap,hsz,htk⟩
 ·have:l= []:=Z95 hn;subst this;exact .nil _ _ (Z9n _)
 ·simp only[Value.ownBlock]at hb;refine .sl l b 0 cap (P.cellsOf ty) (fun i=>cur.getD i undef) hle hcap (ho b hb.symm) hfit (fun i hi=> ?_) fun i c hi=> ?_
  ·rw[Z97,Z8s w b i cur ty (0,0) hh];have:i<cur.size:=by rw[hsz];exact Z8z hi (Z93 _ hle)
   simp[Z8q,this]
  ·obtain⟨u,hu,hr⟩:=hrd i c hi
   have hu':cur.getD i undef=u:=by
    rw[←htk,Z8T]at hu;split at hu
    ·simp only[Z8q];have:cur[i]? =some u:=by simpa using hu
     rw[this];rfl
    ·simp at hu
   rw[hu'];exact hr.mono hF
theorem RelC.cell{P:Program}{o:Option Nat}{k:CK}{e:E}{v:Value}(hr:RelC P B s w h o k e v):v.oneCell'=true:=by
 cases k with
 |fz=>obtain⟨x,_,h1,h2⟩:=hr;rw[h2.one_eq,h1]
 |own ty=>
  obtain⟨x,_,⟨l,xs,_,_,_,⟨_,hc⟩,_⟩ | ⟨_,_,_,_,_,_,_,rfl,_⟩⟩:=hr
  ·rcases hc with ⟨rfl,_⟩ | ⟨_,_,_,rfl,_⟩<;>rfl
  ·rfl
 |nil=>obtain⟨rfl,_⟩:=hr;rfl
 |dead=>exact hr
theorem RelC.rd{P:Program}{o:Option Nat}{k:CK}{e:E}{v:Value}(hr:RelC P B s w h o k e v)(hd:k≠ .dead){G':Nat→Prop}(hF: ∀b,h.F b→G' b)(ho: ∀ty,k= .own ty→ ∀b,o=some b→G' b):
  ∃x,eval s e=some x∧x.one=true∧Rd w G' x v:=by
 cases k with
 |fz=>obtain⟨x,h0,h1,h2⟩:=hr;exact⟨x,h0,h1,h2.mono hF⟩
 |own ty=>
  obtain⟨x,h0,hv⟩:=hr;refine⟨x,h0,?_,hv.rd hF (ho ty rfl)⟩;rcases hv with ⟨l,xs,rfl,_⟩ | ⟨_,_,_,_,_,_,rfl,_⟩<;>rfl
 |nil=>obtain⟨rfl,h0⟩:=hr;exact⟨_,h0,rfl,.nil _ _ (Z9n _)⟩
 |dead=>exact absurd rfl hd
theorem Yj{l:List E}{xs:List V}(h:Y0 s l=some xs):xs.length=l.length∧ ∀(i:Nat) (e:E),l[i]? =some e→ ∃x,xs[i]? =some x∧eval s e=some x:=by
 induction l generalizing xs with
 |nil=>simp only[Y0,Z8l]at h;subst h;exact⟨rfl,fun i e hi=>by simp at hi⟩
 |cons e l ih=>
  simp only[Y0,Z8m,Z8p]at h;obtain⟨x,hx,ys,hys,rfl⟩:=h;obtain⟨h1,h2⟩:=ih hys;refine⟨by simp[h1],fun i e' hi=> ?_⟩;cases i with
  |zero=>simp at hi;subst hi;exact⟨x,by simp,hx⟩
  |succ i=>simp at hi;obtain⟨y,hy,hy'⟩:=h2 i e' hi;exact⟨y,by simpa using hy,hy'⟩
theorem RW{l:List E}(h: ∀e∈l,∃x,eval s e=some x): ∃xs,Y0 s l=some xs:=by
 induction l with
 |nil=>exact⟨[],rfl⟩
 |cons e l ih=>
  obtain⟨x,hx⟩:=h e (by simp);obtain⟨xs,hxs⟩:=ih fun e' he'=>h e' (by simp[he']);exact⟨x::xs,by simp[Y0,hx,hxs]⟩
theorem WL{l:List V}(h: ∀x∈l,x.one=true):flat l=l:=by
 induction l with
 |nil=>rfl
 |cons x l ih=>
  rw[X7,ih fun y hy=>h y (by simp[hy])];have hx:=h x (by simp);cases x<;>first|rfl|simp[V.one]at hx
theorem RelCs.rd{P:Program}{t:Nat}{cs:List (CK×E)}{vs:Array Value}(hr:RelCs P B s w h t cs vs)(hd:ZV cs=false){G':Nat→Prop}(hF: ∀b,h.F b→G' b)(ho:V6 cs=true→ ∀i b,h.bl t (i+1)=some b→G' b):
  ∃x,eval s (.ag (cs.map (·.2)))=some (.agg x)∧x.length=cs.length∧Rd w G' (.agg x) (.agg vs):=by
 obtain⟨hsz,hc⟩:=hr
 have key: ∀i k e,cs[i]? =some (k,e)→ ∃x,eval s e=some x∧x.one=true∧Rd w G' x (vs.getD i undef):=by
  intro i k e hi;have hmem:=Z8x hi;refine(hc i (k,e) hi).rd ?_ hF ?_
  ·intro hk;simp only at hk
   have:ZV cs=true:=by
    simp only[ZV,Z9Z];exact⟨(k,e),hmem,by simp[hk]⟩
   rw[hd]at this;cases this
  ·intro ty hk b hb;simp only at hk;exact ho (by simp only[V6,Z9Z];exact⟨(k,e),hmem,by simp[hk]⟩) _ _ hb
 obtain⟨xs,hxs⟩:=RW (s:=s) (l:=cs.map (·.2)) (by
  intro e he;simp only[Z8S]at he;obtain⟨⟨k,e'⟩,hm,rfl⟩:=he;obtain⟨i,hi⟩:=Z8O hm;obtain⟨x,hx,_⟩:=key i k e' hi;exact⟨x,hx⟩)
 obtain⟨hl,hx⟩:=Yj hxs;have hl':xs.length=cs.length:=by simpa using hl
 have hall: ∀i x,xs[i]? =some x→x.one=true∧Rd w G' x (vs.getD i undef):=by
  intro i x hi
  have hlt:i<cs.length:=by
   have:=(Z8o.1 hi).1;omega
  obtain⟨y,hy,h1,h2⟩:=key i cs[i].1 cs[i].2 (by simp[hlt]);obtain⟨z,hz,hz'⟩:=hx i (cs[i].2) (by simp[hlt]);rw[hi]at hz;cases hz;rw[hy]at hz';cases hz';exact⟨h1,h2⟩
 have hone: ∀x∈xs,x.one=true:=fun x hxm=>by
  obtain⟨i,hi⟩:=Z8O hxm;exact(hall i x hi).1
 refine⟨xs,?_,hl',.agg xs vs (by rw[hsz,hl']) hone fun i x hi=>(hall i x hi).2⟩;simp[eval,hxs,agV,WL hone]
theorem SY{P:Program}{t b:Nat}{vs:Array Value}{T:TypeId}{cs:List (CK×E)}(hb0:h.bl t 0=some b)(hh:w.heap[b]? =some (.cells vs T (0,0)))(hcs:RelCs P B s w h t cs vs)(hd:ZV cs=false)
  {z:V} (hz:eval s (.pt none (cs.map (·.2)))=some z) {G':Nat→Prop} (hF: ∀b,h.F b→G' b) (hb: ∀i b,h.bl t i=some b→G' b):Rd w G' z (.pointer (some ⟨b,0,none⟩)):=by
 simp only[eval,Z8m]at hz;obtain⟨xs,hxs,hz⟩:=hz;simp only[ptV]at hz;split at hz
 ·rename_i hone;simp only[Z8l]at hz;subst hz;have hone': ∀x∈xs,x.one=true:=fun x hx=>Z8A.1 hone x hx;obtain⟨x,hx,hl,hrd⟩:=hcs.rd hd (G':=G') hF (fun _ i b hi=>hb _ b hi);simp only[eval,hxs,Z9w,agV,WL hone',Z8l,V.agg.injEq]at hx;subst hx;cases hrd with
  |agg _ _ h1 h2 h3=>
   refine .ptr xs b 0 (fun i=>vs.getD i undef) (hb 0 b hb0) h2 (fun i hi=> ?_) h3;rw[Z97,Z8s w b i vs T (0,0) hh];have:i<vs.size:=by omega
   simp[Z8q,this]
 ·cases hz
theorem RelG.ownOf(hr:RelG c B G s a w h g){p:Nat}{ty:TypeId}{e:E}(hp:ownOf g p=some (ty,e)):
  ∃v,a.tmps[p]? =some v∧ ∃x,eval s e=some x∧OwnV c.P B w h (h.bl p 1) ty x v:=by
 unfold Vm.ownOf at hp;split at hp
 ·rename_i ty' e' hat;simp only[Z8l,Z8w]at hp;obtain⟨rfl,rfl⟩:=hp;obtain⟨v,hv,hrel⟩:=hr.at_ p (by rw[hat];exact Ws s) (by rw[hat];rfl);rw[hat]at hrel;exact⟨v,hv,hrel⟩
 ·simp at hp
theorem RelG.memOf(hr:RelG c B G s a w h g){p:Nat}{cs:List (CK×E)}(hp:memOf g p=some cs):
  ∃b vs T,h.bl p 0=some b∧a.tmps[p]? =some (.pointer (some ⟨b,0,none⟩))∧w.heap[b]? =some (.cells vs T (0,0))∧RelCs c.P B s w h p cs vs:=by
 unfold Vm.memOf at hp;split at hp
 ·rename_i cs' hat;simp only[Z8l]at hp;subst hp;obtain⟨v,hv,hrel⟩:=hr.at_ p (by rw[hat];exact Ws s) (by rw[hat];rfl);rw[hat]at hrel;obtain⟨b,vs,T,h1,rfl,h2,h3⟩:=hrel;exact⟨b,vs,T,h1,hv,h2,h3⟩
 ·simp at hp
def Z2A:TK→Nat×Nat
 | .ref p=>(p,1)
 | .refm p i=>(p,i+1)
 |_=>(0,0)
theorem RelG.ownAt(hr:RelG c B G s a w h g){k:TK}{ty:TypeId}{e:E}(hp:ownAt g k=some (ty,e)){t:Nat}{v:Value}(hk:RelK c.P B s w h (fun p=>a.tmps[p]?) t v k):
  ∃x,eval s e=some x∧OwnV c.P B w h (h.bl (Z2A k).1 (Z2A k).2) ty x v:=by
 cases k with
 |ref p=>
  obtain⟨u,hu,x,hx,ho⟩:=hr.ownOf hp
  have:u=v:=by
   have h1:a.tmps[p]? =some v:=hk;rw[hu]at h1;cases h1;rfl
  subst this;exact⟨x,hx,ho⟩
 |refm p i=>
  simp only[Vm.ownAt,Z8m]at hp;obtain⟨cs,hm,hp⟩:=hp;obtain⟨b,vs,T,hb,_,hh,hsz,hcs⟩:=hr.memOf hm;obtain⟨b',hb',hcell⟩:=hk;rw[hb]at hb';cases hb';rw[Z8s w b i vs T (0,0) hh]at hcell;have hget:vs.getD i undef=v:=by simp[Z8q,hcell]
  split at hp
  ·rename_i ty' e' hci;simp only[Z8l,Z8w]at hp;obtain⟨rfl,rfl⟩:=hp;have:=hcs i _ hci;rw[hget]at this;exact this
  ·simp at hp
 |_=>simp[Vm.ownAt]at hp
theorem RelG.place(hr:RelG c B G s a w h g){p:Nat}{i:Option Nat}{ty:TypeId}{e:E}(hp:Vm.ownAt g (R8 p i)=some (ty,e)):
  ∃v x,RelK c.P B s w h (fun p=>a.tmps[p]?) 0 v (R8 p i)∧eval s e=some x∧OwnV c.P B w h (h.bl p (plI i)) ty x v:=by
 cases i with
 |none=>
  obtain⟨u,hu,x,hx,ho⟩:=hr.ownOf hp;exact⟨u,x,hu,hx,ho⟩
 |some i=>
  have hp0:=hp;simp only[R8,Vm.ownAt,Z8m]at hp;obtain⟨cs,hm,hp⟩:=hp;obtain⟨b,vs,T,hb,_,hh,hsz,hcs⟩:=hr.memOf hm;split at hp
  ·rename_i ty' e' hci;have hlt:i<vs.size:=by rw[hsz];exact(Z8o.1 hci).1
   have hrel:RelK c.P B s w h (fun p=>a.tmps[p]?) 0 (vs.getD i undef) (R8 p (some i)):=
    ⟨b,hb,by rw[Z8s w b i vs T (0,0) hh];simp[Z8q,hlt]⟩
   obtain⟨x,hx,ho⟩:=hr.ownAt hp0 hrel;exact⟨_,x,hrel,hx,ho⟩
  ·simp at hp
theorem Z2N(hr:RelG c B G s a w h g){k:TK}{t:Nat}{v:Value}(hv:a.tmps[t]? =some v)(hk:RelK c.P B s w h (fun p=>a.tmps[p]?) t v k){e:E}{sh:List Nat}(he:asE g k t=some (e,sh)):
  ∃x,eval s e=some x∧Rd w (h.ext sh) x v:=by
 cases k with
 |val e' sh'=>simp only[asE,Z8l,Z8w]at he;obtain⟨rfl,rfl⟩:=he;exact hk
 |own ty e'=>
  simp only[asE,Z8l,Z8w]at he;obtain⟨rfl,rfl⟩:=he;obtain⟨x,hx,ho⟩:=hk;exact⟨x,hx,ho.rd (fun b hb=>GH.ext_F hb) fun b hb=> .inr ⟨t,by simp,0,hb⟩⟩
 |nil=>
  simp only[asE,Z8l,Z8w]at he;obtain⟨rfl,rfl⟩:=he;have:v= .slice none 0 0:=hk;subst this;exact⟨.sl [],rfl,.nil _ _ (Z9n _)⟩
 |ags cs=>
  simp only[asE]at he;split at he
  ·simp at he
  ·rename_i hd;simp only[Z8l,Z8w]at he;obtain⟨rfl,rfl⟩:=he;obtain⟨vs,rfl,hcs⟩:=hk;obtain⟨x,hx,_,hrd⟩:=hcs.rd (G':=h.ext (if V6 cs=true then [t]else [])) (by simpa using hd) (fun b hb=>GH.ext_F hb) (fun ho i b hb=>by rw[if_pos ho];exact .inr ⟨t,by simp,i,hb⟩);exact⟨_,hx,hrd⟩
 |ref p=>
  simp only[asE,ownAt,Z8p]at he;obtain⟨⟨ty,e'⟩,hp,he⟩:=he;simp only[Z8w]at he;obtain⟨rfl,rfl⟩:=he;obtain⟨u,hu,x,hx,ho⟩:=hr.ownOf hp
  have:u=v:=by
   have h1:a.tmps[p]? =some v:=hk;rw[hu]at h1;cases h1;rfl
  subst this;exact⟨x,hx,ho.rd (fun b hb=>GH.ext_F hb) fun b hb=> .inr ⟨p,by simp,0,hb⟩⟩
 |refm p i=>
  simp only[asE,Z8p]at he;obtain⟨⟨ty,e'⟩,hp,he⟩:=he;simp only[Z8w]at he;obtain⟨rfl,rfl⟩:=he;obtain⟨x,hx,ho⟩:=hr.ownAt hp (show RelK c.P B s w h (fun p=>a.tmps[p]?) t v (.refm p i)from hk);exact⟨x,hx,ho.rd (fun b hb=>GH.ext_F hb) fun b hb=> .inr ⟨p,by simp,i,hb⟩⟩
 |no=>simp[asE]at he
 |mem cs=>simp[asE]at he
 |pm p o=>simp[asE]at he
 |pc e' o sh'=>simp[asE]at he
 |pe p i j o k=>simp[asE]at he
 |pa p o j n k=>simp[asE]at he
 |clo f caps=>simp[asE]at he
 |big e' sh'=>simp[asE]at he
end
end Vm
namespace Vm
open Go
open Go.RowKit (Below)
def TK.owning:TK→Bool
 | .own .. | .mem _| .ags _=>true
 |_=>false
structure Step (B:Nat) (ps rb fz:List Nat) (w w':World) (h h':GH):Prop where
 below:Below B w w'
 same: ∀b,b<w.heap.size→(∀p∈ps,∀i,h.bl p i≠some b)→w'.heap[b]? =w.heap[b]?
 F: ∀b,h.F b→h'.F b
 bl: ∀t,t∉ps→t∉fz→h'.bl t=h.bl t
 fz0: ∀t,t∉rb→h'.bl t 0=h.bl t 0
 fzF: ∀t i b,t∉ps→t∈fz→h.bl t (i+1)=some b→h'.F b
 K:h'.K=h.K
section
variable {P:Program} {B:Nat} {G:Nat→Prop} {s:St} {w w':World} {h h':GH} {ps rb fz:List Nat}
theorem Step.F_same(hs:Step B ps rb fz w w' h h')(hok:Ok B G w h){b:Nat}(hb:h.F b):w'.heap[b]? =w.heap[b]? :=
 hs.same b (hok.f_lt b hb) fun p _ i hi=>(hok.b_lt p i b hi).2.2 hb
theorem Step.bl_same(hs:Step B ps rb fz w w' h h')(hok:Ok B G w h){t i b:Nat}(ht:t∉ps)(hb:h.bl t i=some b):w'.heap[b]? =w.heap[b]? :=
 hs.same b (hok.b_lt t i b hb).2.1 fun p hp j hj=>ht (by have:=(hok.inj t i p j b hb hj).1;subst this;exact hp)
theorem Step.ext_same(hs:Step B ps rb fz w w' h h')(hok:Ok B G w h){sh:List Nat}(hsh: ∀p∈ps,p∉sh):Same (h.ext sh) w w':=by
 intro b hb;rcases hb with hb| ⟨p,hp,i,hi⟩
 ·exact hs.F_same hok hb
 ·exact hs.bl_same hok (fun hps=>hsh p hps hp) hi
theorem Step.ext_mono(hs:Step B ps rb fz w w' h h'){sh:List Nat}(hsh: ∀p∈ps,p∉sh): ∀b,h.ext sh b→h'.ext sh b:=by
 intro b hb;rcases hb with hb| ⟨p,hp,i,hi⟩
 ·exact .inl (hs.F b hb)
 ·have hps:p∉ps:=fun hps=>hsh p hps hp;by_cases hfz:p∈fz
  ·exact .inl (hs.fzF p i b hps hfz hi)
  ·exact .inr ⟨p,hp,i,by rw[hs.bl p hps hfz];exact hi⟩
theorem Step.exb_same(hs:Step B ps rb fz w w' h h')(hok:Ok B G w h){big:Bool}{sh:List Nat}(hsh: ∀p∈ps,p∉sh):Same (h.exb big sh) w w':=by
 intro b hb;rcases hb with hb| ⟨p,hp,i,_,hi⟩
 ·exact hs.F_same hok hb
 ·exact hs.bl_same hok (fun hps=>hsh p hps hp) hi
theorem Step.exb_mono(hs:Step B ps rb fz w w' h h')(hrb: ∀t∈rb,t∈ps){big:Bool}{sh:List Nat}(hsh: ∀p∈ps,p∉sh): ∀b,h.exb big sh b→h'.exb big sh b:=by
 intro b hb;rcases hb with hb| ⟨p,hp,i,hi0,hi⟩
 ·exact .inl (hs.F b hb)
 ·have hps:p∉ps:=fun hps=>hsh p hps hp;by_cases hfz:p∈fz
  ·cases i with
   |zero=>exact .inr ⟨p,hp,0,hi0,by rw[hs.fz0 p fun hr=>hps (hrb p hr)];exact hi⟩
   |succ i=>exact .inl (hs.fzF p i b hps hfz hi)
  ·exact .inr ⟨p,hp,i,hi0,by rw[hs.bl p hps hfz];exact hi⟩
theorem JG{e:TypeId}{k:Nat}{v:Value}{n:Nat}{xs:List Value}(hr:w.ownsRow B e k v n xs)(hb: ∀b,v.ownBlock=some b→w'.heap[b]? =w.heap[b]?):w'.ownsRow B e k v n xs:=by
 refine⟨hr.1,?_⟩;rcases hr.2 with hn| ⟨g,cap,cur,rfl,h1,h2,h3⟩
 ·exact .inl hn
 ·exact .inr ⟨g,cap,cur,rfl,h1,by rw[hb g rfl];exact h2,h3⟩
theorem OwnV.keep{o:Option Nat}{ty:TypeId}{x:V}{v:Value}(hv:OwnV P B w h o ty x v)(hF:Same h.F w w')(hFF: ∀b,h.F b→h'.F b)(ho: ∀b,o=some b→w'.heap[b]? =w.heap[b]?):OwnV P B w' h' o ty x v:=by
 rcases hv with ⟨l,xs,rfl,h0,h1,h2,h3,h4⟩ | ⟨id,ks,xs,b,es,clk,rfl,rfl,rfl,h0,hid,h1,h2,h3,h4,h5⟩
 case inr=>exact .inr ⟨id,ks,xs,b,es,clk,rfl,rfl,rfl,h0,hid,by rw[ho b rfl];exact h1,h2,h3,fun i c hi=>(h4 i c hi).keep hF hFF,fun i c hi=>(h5 i c hi).keep hF hFF⟩
 refine .inl ⟨l,xs,rfl,h0,h1,JG h2 (fun b hb=>ho b (by rw[←h3];exact hb)),h3,fun i c hi=> ?_⟩;obtain⟨u,hu,hr⟩:=h4 i c hi;exact⟨u,hu,hr.keep hF hFF⟩
theorem RelC.keep{o:Option Nat}{k:CK}{e:E}{v:Value}(hr:RelC P B s w h o k e v)(hF:Same h.F w w')(hFF: ∀b,h.F b→h'.F b)(ho: ∀b,o=some b→w'.heap[b]? =w.heap[b]?):RelC P B s w' h' o k e v:=by
 cases k with
 |fz=>obtain⟨x,h0,h1,h2⟩:=hr;exact⟨x,h0,h1,h2.keep hF hFF⟩
 |own ty=>obtain⟨x,h0,h1⟩:=hr;exact⟨x,h0,h1.keep hF hFF ho⟩
 |nil=>exact hr
 |dead=>exact hr
theorem RelCs.keep{t:Nat}{cs:List (CK×E)}{vs:Array Value}(hr:RelCs P B s w h t cs vs)(hF:Same h.F w w')(hFF: ∀b,h.F b→h'.F b)(hbl: ∀i,h'.bl t (i+1)=h.bl t (i+1))(ho: ∀i b,h.bl t (i+1)=some b→w'.heap[b]? =w.heap[b]?):RelCs P B s w' h' t cs vs:=
 ⟨hr.1,fun i ck hi=>by rw[hbl];exact(hr.2 i ck hi).keep hF hFF fun b hb=>ho _ b hb⟩
theorem Z0P{k:TK}(hc:calm ps rb fz k=true):(∀p∈ps,Xf p k=false)∧(∀p∈rb,leads p k=false)∧US fz k=false:=by
 simp only[calm,Z8u,Z9l,Zba,ZaE]at hc;exact⟨hc.1.1,hc.1.2,hc.2⟩
theorem RelK.keep{tm tm':Nat→Option Value}{t:Nat}{v:Value}{k:TK}(hk:RelK P B s w h tm t v k)(hs:Step B ps rb fz w w' h h')(hok:Ok B G w h)(hrb: ∀t∈rb,t∈ps)
  (ht:t∉ps) (htf:t∈fz→k.owning=false) (hcalm:calm ps rb fz k=true) (htm: ∀p,p∉ps→tm' p=tm p):RelK P B s w' h' tm' t v k:=by
 obtain⟨hto,hle,hin⟩:=Z0P hcalm;have hF:Same h.F w w':=fun b hb=>hs.F_same hok hb;cases k with
 |no=>trivial
 |val e sh=>
  obtain⟨x,h0,h1⟩:=hk;have hsh: ∀p∈ps,p∉sh:=fun p hp hin=>by have:=hto p hp;simp[Xf]at this;exact this hin
  exact⟨x,h0,h1.keep (hs.ext_same hok hsh) (hs.ext_mono hsh)⟩
 |big e sh=>
  obtain⟨x,h0,h1⟩:=hk;have hsh: ∀p∈ps,p∉sh:=fun p hp hin=>by have:=hto p hp;simp[Xf]at this;exact this hin
  exact⟨x,h0,h1.keep (hs.exb_same hok hsh) (hs.exb_mono hrb hsh)⟩
 |own ty e=>
  obtain⟨x,h0,h1⟩:=hk;refine⟨x,h0,?_⟩;have htf:t∉fz:=fun hf=>by cases htf hf
  rw[hs.bl t ht htf];exact h1.keep hF hs.F fun b hb=>hs.bl_same hok ht hb
 |nil=>exact hk
 |mem cs=>
  obtain⟨b,vs,T,h1,h2,h3,h4⟩:=hk;have htf:t∉fz:=fun hf=>by cases htf hf
  exact⟨b,vs,T,by rw[hs.bl t ht htf];exact h1,h2,by rw[hs.bl_same hok ht h1];exact h3,h4.keep hF hs.F (fun i=>by rw[hs.bl t ht htf]) fun i b hb=>hs.bl_same hok ht hb⟩
 |ags cs=>
  obtain⟨vs,h2,h4⟩:=hk;have htf:t∉fz:=fun hf=>by cases htf hf
  exact⟨vs,h2,h4.keep hF hs.F (fun i=>by rw[hs.bl t ht htf]) fun i b hb=>hs.bl_same hok ht hb⟩
 |ref p=>
  have hp:p∉ps:=fun hp=>by have:=hto p hp;simp[Xf]at this
  exact(htm p hp).trans hk
 |refm p i=>
  have hp:p∉ps:=fun hp=>by have:=hto p hp;simp[Xf]at this
  obtain⟨b,h1,h2⟩:=hk;exact⟨b,by rw[hs.fz0 p (fun hr=>hp (hrb p hr))];exact h1,by rw[Z9v (w:=w) (a:=⟨b,i,none⟩) (hs.bl_same hok hp h1)];exact h2⟩
 |pm p o=>
  obtain⟨b,h1,h2⟩:=hk;have hp:p∉rb:=fun hp=>by have:=hle p hp;simp[leads]at this
  exact⟨b,by rw[hs.fz0 p hp];exact h1,h2⟩
 |pc e o sh=>
  obtain⟨x,b,q,vs,h0,h1,h2,h3,h4,h5⟩:=hk;have hsh: ∀p∈ps,p∉sh:=fun p hp hin=>by have:=hto p hp;simp[Xf]at this;exact this hin
  exact⟨x,b,q,vs,h0,h1,hs.ext_mono hsh b h2,h3,fun i hi=>by rw[(hs.ext_same hok hsh).cell h2];exact h4 i hi,fun i ck hi=>(h5 i ck hi).keep (hs.ext_same hok hsh) (hs.ext_mono hsh)⟩
 |pe p i j o k=>
  have hp:p∉ps:=fun hp=>by have:=hto p hp;simp[Xf]at this
  have hpf:p∉fz:=fun hp=>by simp[US]at hin;exact hin hp
  obtain⟨n,q,h1,h2,h3⟩:=hk;exact⟨n,q,by rw[hs.bl p hp hpf];exact h1,h2,h3⟩
 |pa p o j n k=>
  have hp:p∉rb:=fun hp=>by have:=hle p hp;simp[leads]at this
  obtain⟨b,q,h1,h2,h3,h4⟩:=hk;exact⟨b,q,by rw[hs.fz0 p hp];exact h1,h2,h3,h4⟩
 |clo f caps=>
  obtain⟨vs,h1,h2,h3⟩:=hk;refine⟨vs,h1,h2,fun i p hi=> ?_⟩;obtain⟨b,h4,h5⟩:=h3 i p hi;have hp:p∉rb:=fun hp=>by have:=hle p hp;simp[leads]at this;exact this (Z8x hi)
  exact⟨b,by rw[hs.fz0 p hp];exact h4,h5⟩
end
def PRes(c:Ctx)(B:Nat)(G:Nat→Prop)(s:St)(w:World)(h:GH)(tm:Nat→Option Value)(d:Nat)(k:TK)(v:Value)(w':World):Prop:=
 ∃h',Step B [d] [d] [] w w' h h'∧Ok B G w' h'∧RelK c.P B s w' h' tm d v k
section
variable {c:Ctx} {B:Nat} {G:Nat→Prop} {s:St} {a:Act} {w:World} {h:GH} {g:Gam} {C:Zg}
theorem Step.refl(ps rb:List Nat)(w:World)(h:GH):Step B ps rb [] w w h h:=⟨Z8E _ _,fun _ _ _=>rfl,fun _ hb=>hb,fun _ _ _=>rfl,fun _ _=>rfl,fun _ _ _ _ hm=>(by simp at hm),rfl⟩
theorem PRes.here{tm:Nat→Option Value}{d:Nat}{k:TK}{v:Value}(hok:Ok B G w h)(hk:RelK c.P B s w h tm d v k):PRes c B G s w h tm d k v w:=
 ⟨h,Step.refl _ _ _ _,hok,hk⟩
theorem j3(hr:RelG c B G s a w h g)(hC:holds s (ixC c C)){x:Operand}{k:TK}(hx:opK g C x=k)(hk:k.isNo=false):
  (∃v,x= .const v)∨(∃t,x= .tmp t∧look g C t=k∧ ∃v,a.tmps[t]? =some v∧a.eval x=v∧RelK c.P B s w h (fun p=>a.tmps[p]?) t v k)∨ ∃f,x= .func f∧ .val (.c (.fn f)) []=k:=by
 cases x with
 |const v=>exact .inl ⟨v,rfl⟩
 |tmp t=>
  have hx':look g C t=k:=hx;obtain⟨v,hv,hrel,_⟩:=hr.look hC hx' hk;exact .inr (.inl ⟨t,rfl,hx',v,hv,Act.eval_tmp a t v hv,hrel⟩)
 |global q=>simp only[opK]at hx;subst hx;simp[TK.isNo]at hk
 |func f=>exact .inr (.inr ⟨f,rfl,hx⟩)
theorem YR(hr:RelG c B G s a w h g)(hC:holds s (ixC c C)){x:Operand}{e:E}{sh:List Nat}(he:opE g C x=some (e,sh)):
  ∃y,eval s e=some y∧Rd w (h.ext sh) y (a.eval x):=by
 unfold opE at he;cases x with
 |tmp t=>
  simp only at he
  have hn:(opK g C (.tmp t)).isNo=false:=by
   cases hk:opK g C (.tmp t)<;>first|rfl| (rw[hk]at he;simp[asE]at he)
  obtain⟨v,hv,hrel,_⟩:=hr.look hC (rfl:look g C t=opK g C (.tmp t)) hn;rw[Act.eval_tmp a t v hv];exact Z2N hr hv hrel he
 |const v=>
  simp only[opK]at he;split at he
  ·rename_i heq;simp only[Zbn]at heq;subst heq;simp only[asE,Z8l,Z8w]at he;obtain⟨rfl,rfl⟩:=he;exact⟨_,rfl,.nil _ _ (Z9n _)⟩
  ·rename_i heq;simp only[Zbn]at heq;subst heq;split at he
   ·rename_i x hx;simp only[asE,Z8l,Z8w]at he;obtain⟨rfl,rfl⟩:=he;exact⟨x,rfl,TI hx _ _⟩
   ·simp[asE]at he
  ·rename_i heq;simp at heq
  ·rename_i heq;simp at heq
  ·simp[asE]at he
 |global q=>simp[opK,asE]at he
 |func f=>
  simp only[opK,asE,Z8l,Z8w]at he;obtain⟨rfl,rfl⟩:=he;exact⟨.fn f,rfl,.fn f⟩
theorem YY(hr:RelG c B G s a w h g)(hC:holds s (ixC c C)){x:Operand}{e:E}{sh:List Nat}(he:opK g C x= .val e sh):
  ∃y,eval s e=some y∧Rd w (h.ext sh) y (a.eval x):=YR hr hC (by unfold opE;rw[he];rfl)
theorem UZ(hr:RelG c B G s a w h g)(hC:holds s (ixC c C)){x:Operand}(he:opK g C x= .nil):a.eval x= .slice none 0 0:=by
 rcases j3 hr hC he rfl with ⟨v,rfl⟩ | ⟨t,rfl,_,v,hv,hev,hrel⟩ | ⟨f,_,hf⟩;rotate_left 2
 ·cases hf
 ·simp only[opK]at he;split at he
  ·rename_i heq;simp only[Zbn]at heq;subst heq;rfl
  ·split at he<;>simp at he
  ·rename_i heq;simp at heq
  ·rename_i heq;simp at heq
  ·simp at he
 ·rw[hev];exact hrel
theorem Rd.F{x:V}{v:Value}(hx:Rd w (h.ext []) x v):Rd w h.F x v:=hx.mono fun _ hb=>GH.ext_nil hb
theorem Rd.flat{G' G'':Nat→Prop}{x:V}{v:Value}(hx:Rd w G' x v)(hf:x.flatc=true):Rd w G'' x v:=by
 cases hx<;>first|exact .int _ _|exact .bool _|exact .str _|simp[V.flatc]at hf
theorem Z1W{op:BinOp}{x y z:V}(hz:binV op x y=some z){G' G'':Nat→Prop}{v u:Value}(hv:Rd w G' x v)(hu:Rd w G'' y u)(T:TypeId)(xo yo:Operand):
  ∃r,(do eqGuard op T xo yo v u;binOp op T v u:Sem Value).run c.P w= .ok r w∧Rd w h.F z r:=by
 cases hv<;>cases hu<;>(try (cases op<;>simp[binV]at hz;done))
 rename_i k n k' n';cases op<;>simp only[binV]at hz<;>(try split at hz)<;>(try simp only[Z8l]at hz)<;>(try subst hz)<;>(try (simp at hz;done))
 all_goals
  first|refine⟨.int _ _,?_,.int _ _⟩ |refine⟨.bool _,?_,.bool _⟩
  first
   | (rename_i hk;subst hk;simp[eqGuard,binOp,Op.intArith,Op.intBits,Op.intCmp];done)
   | (rename_i hk;obtain⟨rfl,hb⟩:=hk;simp[eqGuard,binOp,Op.intDiv,hb];done)
   | (rename_i hk;have: ¬n'<0:=by omega
      simp[eqGuard,binOp,Op.shift,this];done)
theorem Z0h{neg:Bool}{x y z:V}(hz:eqV neg x y=some z){G' G'':Nat→Prop}{v u:Value}(hv:Rd w G' x v)(hu:Rd w G'' y u){T:TypeId}(hT:eqTy c.P T=true)(xo yo:Operand):
  ∃r,(do eqGuard (if neg then .neq else .eql) T xo yo v u;binOp (if neg then .neq else .eql) T v u:Sem Value).run c.P w= .ok r w∧Rd w h.F z r:=by
 have hT':c.P.underlying T=some .bool:=by
  unfold eqTy at hT;split at hT
  ·assumption
  ·simp at hT
 cases hv with
 |bool a=>
  cases hu with
  |bool b=>
   simp only[eqV,Z8l]at hz;subst hz;refine⟨.bool _,?_,.bool _⟩;cases neg
   ·have:=run_eql_bool (P:=c.P) w T a b hT';simp[eqGuard,this]
   ·have:=run_neq_bool (P:=c.P) w T a b hT';simp[eqGuard,this]
  |_=>simp[eqV]at hz
 |_=>simp[eqV]at hz
theorem Z3t{op:UnOp}{x z:V}(hz:unV op x=some z){G':Nat→Prop}{v:Value}(hv:Rd w G' x v): ∃r,(Op.unary op v).run c.P w= .ok r w∧Rd w h.F z r:=by
 cases hv<;>(try (cases op<;>simp[unV]at hz;done))
 ·rename_i k n;cases op<;>simp only[unV,Z8l]at hz<;>first| (simp at hz;done) |skip
  subst hz;exact⟨.int _ _,by simp[Op.unary,Op.intArith],.int _ _⟩
 ·rename_i b;cases op<;>simp only[unV,Z8l]at hz<;>first| (simp at hz;done) |skip
  subst hz;exact⟨.bool _,by simp[Op.unary],.bool _⟩
theorem j9{k:IntKind}{x z:V}(hz:qR k x=some z){G':Nat→Prop}{v:Value}(hv:Rd w G' x v){S T:TypeId}(hS:(c.P.underlying S).isSome=true)(hT:c.P.underlying T=some (.int k)):
  ∃r,(convert S T v).run c.P w= .ok r w∧Rd w h.F z r:=by
 obtain⟨dS,hS⟩:=Z9E.1 hS;cases hv<;>(try (simp[qR]at hz;done))
 simp only[qR,Z8l]at hz;subst hz;exact⟨.int _ _,by simp[convert,Z8X hS,Z8X hT,Conv.intToInt],.int _ _⟩
theorem Z2a{x z:V}(hz:lenV x=some z){G':Nat→Prop}{v:Value}(hv:Rd w G' x v){T ty e:TypeId}(hT:c.P.underlying T=some (.slice e)):
  ∃r,(Builtin.len_ #[T] ty #[v]).run c.P w= .ok r w∧Rd w h.F z r:=by
 cases hv with
 |nil a' cap hc=>
  simp only[lenV,Z8l]at hz;subst hz;exact⟨.int .i64 0,by simp[Builtin.len_,Z8X hT,goInt],.int _ _⟩
 |sl l b o cap k vs h1 h2 h3 h4 h5 h6=>
  simp only[lenV,Z8l]at hz;subst hz;exact⟨.int .i64 l.length,by simp[Builtin.len_,Z8X hT,goInt],.int _ _⟩
 |_=>simp[lenV]at hz
theorem Z1X{x y z:V}(hz:minV x y=some z){G' G'':Nat→Prop}{v u:Value}(hv:Rd w G' x v)(hu:Rd w G'' y u)(ts:Array TypeId)(ty:TypeId):
  ∃r,(Builtin.min_ ts ty #[v,u]).run c.P w= .ok r w∧Rd w h.F z r:=by
 cases hv<;>(try (simp[minV]at hz;done))
 cases hu<;>(try (simp[minV]at hz;done))
 rename_i k n k' n';simp only[minV,Z8l]at hz;subst hz;exact⟨.int k _,by simp[Builtin.min_,Builtin.min2],.int _ _⟩
theorem Z1p{x y z:V}(hz:maxV x y=some z){G' G'':Nat→Prop}{v u:Value}(hv:Rd w G' x v)(hu:Rd w G'' y u)(ts:Array TypeId)(ty:TypeId):
  ∃r,(Builtin.max_ ts ty #[v,u]).run c.P w= .ok r w∧Rd w h.F z r:=by
 cases hv<;>(try (simp[maxV]at hz;done))
 cases hu<;>(try (simp[maxV]at hz;done))
 rename_i k n k' n';simp only[maxV,Z8l]at hz;subst hz;exact⟨.int k _,by simp[Builtin.max_,Builtin.max2],.int _ _⟩
theorem Z29{x z:V}{i:Nat}(hz:extV x i=some z){G':Nat→Prop}{v:Value}(hv:Rd w G' x v): ∃r,(Instr.extract v i).run c.P w= .ok r w∧Rd w G' z r:=by
 cases hv<;>(try (simp[extV]at hz;done))
 rename_i l vs h1 h2;simp only[extV]at hz;have hlt:i<vs.size:=by rw[h1];exact(Z8o.1 hz).1
 refine⟨vs.getD i undef,?_,h2 i z hz⟩;simp[Instr.extract,hlt,Z8q]
theorem Wy{P:Program}{T:TypeId}(hT:okT P T=true): ∃d i,P.underlying T=some d∧P.info? T=some i∧P.cellsOf T=i.size∧ ∀w:World,(isAgg T).run P w= .ok (Zn P T) w:=by
 simp only[okT,Z8u]at hT;obtain⟨d,hd⟩:=Z9E.1 hT.1;obtain⟨i,hi⟩:=Z9E.1 hT.2;refine⟨d,i,hd,hi,by simp[Program.cellsOf,hi],fun w=> ?_⟩;unfold isAgg Zn;rw[Zag,Z8X hd w,hd];cases d<;>rfl
theorem Yr{P:Program}{T:TypeId}{i:TypeInfo}(hi:P.info? T=some i)(w:World):(Go.sizeOf T).run P w= .ok i.size w:=by
 simp[Go.sizeOf,typeInfo,hi]
theorem V0{P:Program}{T:TypeId}(hT:okT P T=true)(hag:Zn P T=false){b o:Nat}{v:Value}(hc:w.cell? ⟨b,o,none⟩=some v):
  (Instr.loadAt T (.pointer (some ⟨b,o,none⟩))).run P w= .ok v w:=by
 obtain⟨d,i,hd,hi,hs,hagg⟩:=Wy hT;simp[Instr.loadAt,Instr.sureAddr,loadVar,hagg,hag,hc]
theorem S9{P:Program}{T:TypeId}(hT:okT P T=true)(hag:Zn P T=true){b o:Nat}(vs:List Value)(hn:vs.length=P.cellsOf T)(hc: ∀i u,vs[i]? =some u→w.cell? ⟨b,o+i,none⟩=some u):
  (Instr.loadAt T (.pointer (some ⟨b,o,none⟩))).run P w= .ok (.agg vs.toArray) w:=by
 obtain⟨d,i,hd,hi,hs,hagg⟩:=Wy hT;have hl:=run_loadCells_list (P:=P) w ⟨b,o,none⟩ vs (fun j u hj=>by rw[Za0];exact hc j u hj);rw[hn,hs]at hl;simp[Instr.loadAt,Instr.sureAddr,loadVar,hagg,hag,Yr hi,hl]
theorem X8{x z:V}(h:oneV x=some z):x=z∧z.one=true:=by
 unfold oneV at h;split at h
 ·simp only[Z8l]at h;subst h;exact⟨rfl,by assumption⟩
 ·simp at h
theorem Qi{p:Nat}{cs:List (CK×E)}: ∀ {i:Nat},YL p i cs=true→ ∀(j:Nat) (x:CK×E),cs[j]? =some x→x.2=E.m p (i+j):=by
 induction cs with
 |nil=>intro i _ j x hj;simp at hj
 |cons y r ih=>
  intro i hp j x hj;obtain⟨k,e⟩:=y;cases e<;>simp only[YL]at hp<;>first| (cases hp;done) |skip
  rename_i q l;simp only[Z8u,Z99]at hp;obtain⟨⟨rfl,rfl⟩,hp⟩:=hp;cases j with
  |zero=>simp at hj;subst hj;rfl
  |succ j=>rw[ih hp j x (by simpa using hj)];congr 1;omega
theorem Qd{p i:Nat}{cs:List (CK×E)}{x:List V}(hp:YL p i cs=true)(hne:0<cs.length)(hx:eval s (.ag (cs.map (·.2)))=some (.agg x))(hone: ∀(j:Nat) (e:CK×E),cs[j]? =some e→ ∃y,eval s e.2=some y∧y.one=true):
  eval s (.mm p i cs.length)=some (.agg x):=by
 simp only[eval,Z8p]at hx;obtain⟨ys,hys,hag⟩:=hx;obtain⟨hl,hget⟩:=Yj hys;have hl':ys.length=cs.length:=by simpa using hl
 have hy: ∀j,j<cs.length→ ∃l,get s p= .m l∧ ∃y,l[i+j]? =some y∧ys[j]? =some y:=by
  intro j hj;obtain⟨y,hy,he⟩:=hget j (cs[j].2) (by simp[hj]);rw[Qi hp j cs[j] (by simp[hj])]at he;simp only[eval]at he;split at he
  ·rename_i l hl;rw[Z8m]at he;obtain⟨y',he,h1⟩:=he;obtain⟨rfl,_⟩:=X8 h1;exact⟨l,hl,y',he,hy⟩
  ·simp at he
 obtain⟨l,hl0,_⟩:=hy 0 hne
 have hyl: ∀j,j<cs.length→l[i+j]? =ys[j]? :=by
  intro j hj;obtain⟨l',hl',y,h1,h2⟩:=hy j hj;rw[hl0]at hl';cases hl';rw[h1,h2]
 have hlen:i+cs.length≤l.length:=by
  have h1:=hyl (cs.length-1) (by omega);have h2:ys[cs.length-1]? =some ys[cs.length-1]:=Z8n (by omega);rw[h2]at h1;have:=(Z8o.1 h1).1;omega
 have hys':(l.drop i).take cs.length=ys:=by
  apply ZaP;intro j;rw[Z8T];split
  ·rename_i hj;rw[Z8N];exact hyl j hj
  ·rename_i hj;rw[Z9x (by omega)]
 have hone': ∀y∈ys,y.one=true:=by
  intro y hym;obtain⟨j,hj⟩:=Z8O hym;have hlt:j<cs.length:=by have:=(Z8o.1 hj).1;omega
  obtain⟨z,hz,hz1⟩:=hone j cs[j] (by simp[hlt]);obtain⟨z',hz',he'⟩:=hget j (cs[j].2) (by simp[hlt]);rw[hj]at hz';cases hz';rw[hz]at he';cases he';exact hz1
 have hx':x=ys:=by
  simp only[agV,V.agg.injEq]at hag;rw[←hag,WL hone']
 subst hx';simp only[eval,hl0,hlen,Z9c,hys']
theorem RelCs.part{P:Program}{t:Nat}{cs:List (CK×E)}{vs:Array Value}(hr:RelCs P B s w h t cs vs){o n:Nat}(hn:((cs.drop o).take n).length=n):
  ∀(i:Nat) (ck:CK×E),((cs.drop o).take n)[i]? =some ck→RelC P B s w h (h.bl t (o+i+1)) ck.1 ck.2 (vs.getD (o+i) undef)∧vs[o+i]? =some (vs.getD (o+i) undef):=by
 intro i ck hi;rw[Z8T]at hi;split at hi
 ·rw[Z8N]at hi;refine⟨hr.2 _ _ hi,?_⟩;have hlt:o+i<vs.size:=by rw[hr.1];exact(Z8o.1 hi).1
  simp[Z8q,hlt]
 ·simp at hi
theorem RelCs.part_rd{P:Program}{t:Nat}{cs:List (CK×E)}{vs:Array Value}(hr:RelCs P B s w h t cs vs){o n:Nat}(hn:((cs.drop o).take n).length=n)(hd:ZV ((cs.drop o).take n)=false){G':Nat→Prop}(hF: ∀b,h.F b→G' b)
  (ho:V6 ((cs.drop o).take n)=true→ ∀i b,h.bl t (i+1)=some b→G' b):
  ∃x,eval s (.ag (((cs.drop o).take n).map (·.2)))=some (.agg x)∧x.length=n∧(∀(j:Nat) (e:CK×E),((cs.drop o).take n)[j]? =some e→ ∃y,eval s e.2=some y∧y.one=true)∧
   Rd w G' (.agg x) (.agg ((vs.toList.drop o).take n).toArray)∧ ∀(i:Nat) (u:Value),((vs.toList.drop o).take n)[i]? =some u→vs[o+i]? =some u:=by
 have hp:=hr.part hn
 have hvl:((vs.toList.drop o).take n).length=n:=by
  have h1:=hr.1;simp only[Z9N,ZaV,Zaj]at hn⊢;omega
 have hvg: ∀i,i<n→((vs.toList.drop o).take n)[i]? =vs[o+i]? :=by
  intro i hi;rw[Z8T,if_pos hi,Z8N,Z9p]
 have key: ∀i k e,((cs.drop o).take n)[i]? =some (k,e)→ ∃x,eval s e=some x∧x.one=true∧Rd w G' x (vs.getD (o+i) undef):=by
  intro i k e hi;have hmem:=Z8x hi;refine(hp i (k,e) hi).1.rd ?_ hF ?_
  ·intro hk;simp only at hk
   have:ZV ((cs.drop o).take n)=true:=by
    simp only[ZV,Z9Z];exact⟨(k,e),hmem,by simp[hk]⟩
   rw[hd]at this;cases this
  ·intro ty hk b hb;simp only at hk;exact ho (by simp only[V6,Z9Z];exact⟨(k,e),hmem,by simp[hk]⟩) _ _ hb
 have hsome: ∀e∈((cs.drop o).take n).map (·.2),∃x,eval s e=some x:=by
  intro e he;obtain⟨⟨k,e'⟩,hm,rfl⟩:=Z8S.1 he;obtain⟨i,hi⟩:=Z8O hm;obtain⟨x,hx,_⟩:=key i k e' hi;exact⟨x,hx⟩
 obtain⟨xs,hxs⟩:=RW hsome;obtain⟨hl,hx⟩:=Yj hxs;have hl':xs.length=n:=by rw[hl,Z8P,hn]
 have hall: ∀i x,xs[i]? =some x→x.one=true∧Rd w G' x (vs.getD (o+i) undef):=by
  intro i x hi
  have hlt:i< ((cs.drop o).take n).length:=by
   have:=(Z8o.1 hi).1;omega
  obtain⟨y,hy,h1,h2⟩:=key i ((cs.drop o).take n)[i].1 ((cs.drop o).take n)[i].2 (by rw[Z8n hlt]);obtain⟨z,hz,hz'⟩:=hx i (((cs.drop o).take n)[i].2) (by rw[Z8D,Z8n hlt];rfl);rw[hi]at hz;cases hz;rw[hy]at hz';cases hz';exact⟨h1,h2⟩
 have hone: ∀x∈xs,x.one=true:=fun x hxm=>by
  obtain⟨i,hi⟩:=Z8O hxm;exact(hall i x hi).1
 refine⟨xs,?_,hl',fun j e hj=> ?_,.agg xs _ (by simp only[Z9F];omega) hone fun i x hi=> ?_,fun i u hi=> ?_⟩
 ·simp only[eval,hxs,Z9w,agV,WL hone]
 ·obtain⟨y,hy,h1,_⟩:=key j e.1 e.2 hj;exact⟨y,hy,h1⟩
 ·have hlt:i<n:=by have:=(Z8o.1 hi).1;omega
  have:((vs.toList.drop o).take n).toArray.getD i undef=vs.getD (o+i) undef:=by
   simp only[Z8q,Z9S,hvg i hlt]
  rw[this];exact(hall i x hi).2
 ·have hlt:i<n:=by have:=(Z8o.1 hi).1;omega
  rw[←hvg i hlt];exact hi
end
end Vm
namespace Vm
open Go
open Go.RowKit (Below)
section
variable {c:Ctx} {B:Nat} {G:Nat→Prop} {s:St} {a:Act} {w:World} {h:GH} {g:Gam} {C:Zg}
def Has(c:Ctx)(B:Nat)(s:St)(w:World)(h:GH)(tm:Nat→Option Value)(d:Nat)(k:TK)(m:Sem Value):Prop:=
 ∃v,m.run c.P w= .ok v w∧RelK c.P B s w h tm d v k
theorem SZ{x z:V}{o:Nat}(h:fldV x o=some z):x.pc[o]? =some z:=by
 unfold fldV at h;rw[Z8m]at h;obtain⟨y,h1,h2⟩:=h;rw[h1,(X8 h2).1]
theorem Vl{x z:V}{o n:Nat}(h:SJ x o n=some z):o+n≤x.pc.length∧z= .agg ((x.pc.drop o).take n):=by
 unfold SJ at h;split at h
 ·simp only[Z8l]at h;exact⟨by assumption,h.symm⟩
 ·simp at h
theorem KI{T:TypeId}(hT:okT c.P T=true){x:V}{b q o:Nat}{vs:Nat→Value}{sh:List Nat}(hone: ∀y∈x.pc,y.one=true)
  (hcell: ∀i,i<x.pc.length→w.cell? ⟨b,q+i,none⟩=some (vs i)) (hrd: ∀i y,x.pc[i]? =some y→Rd w (h.ext sh) y (vs i)) {e:E} (he:eval s e=some x)
  (hev: ∃z,eval s (if Zn c.P T then .flds e o (c.P.cellsOf T)else .fld e o)=some z) (tm:Nat→Option Value) (d:Nat):
  Has c B s w h tm d (.val (if Zn c.P T then .flds e o (c.P.cellsOf T)else .fld e o) sh) (Instr.loadAt T (.pointer (some ⟨b,q+o,none⟩))):=by
 obtain⟨z,hz⟩:=hev;cases hag:Zn c.P T with
 |false=>
  rw[hag]at hz;simp only[Z8U,Z9f,eval,he,Z8y]at hz⊢;have hz':=SZ hz;have hlt:=(Z8o.1 hz').1;exact⟨vs o,V0 hT hag (hcell o hlt),z,by simp only[eval,he,Z8y];exact hz,hrd o z hz'⟩
 |true=>
  rw[hag]at hz;simp only[Z9c,eval,he,Z8y]at hz⊢;obtain⟨hle,rfl⟩:=Vl hz;have hlen:((x.pc.drop o).take (c.P.cellsOf T)).length=c.P.cellsOf T:=by simp;omega
  refine⟨.agg ((List.range (c.P.cellsOf T)).map fun i=>vs (o+i)).toArray,S9 hT hag _ (by simp) (fun i u hi=> ?_),_,by simp only[eval,he,Z8y];exact hz,?_⟩
  ·have hlt:i<c.P.cellsOf T:=by simpa using(Z8o.1 hi).1
   have:vs (o+i)=u:=by simpa[hlt]using hi
   rw[←this,Z9i];exact hcell (o+i) (by omega)
  ·refine .agg _ _ (by simp only[Z9F,Z8P,Zbb,hlen]) (fun y hy=>hone y (Z9Y (Z9g hy))) fun i y hi=> ?_;have hlt:i<c.P.cellsOf T:=by have:=(Z8o.1 hi).1;omega
   rw[Z8T,if_pos hlt,Z8N]at hi
   have:((List.range (c.P.cellsOf T)).map fun i=>vs (o+i)).toArray.getD i undef=vs (o+i):=by
    simp[Z8q,hlt]
   rw[this];exact hrd (o+i) y hi
theorem Rd.flatAll{G' G'':Nat→Prop}{x:V}{v:Value}(hx:Rd w G' x v)(hf: ∀y∈x.cells,y.flatc=true)(ht: ∀l,x≠ .tup l):Rd w G'' x v:=by
 cases hx with
 |agg cs vs h1 h2 h3=>exact .agg cs vs h1 h2 fun i y hi=>(h3 i y hi).flat (hf y (Z8x hi))
 |tup l vs h1 h2=>exact absurd rfl (ht l)
 |int k n=>exact .int _ _
 |bool b=>exact .bool _
 |str b=>exact .str _
 |nil a cap hc=>exact .nil _ _ hc
 |sl l b o cap k vs h1 h2 h3 h4 h5 h6=>exact absurd (hf (.sl l) (by simp[V.cells])) (by simp[V.flatc])
 |ptr cs b o vs h1 h2 h3 h4=>exact absurd (hf (.ptr cs) (by simp[V.cells])) (by simp[V.flatc])
 |fn f=>exact .fn f
 |clo f cs vs h1 h2=>exact absurd (hf (.clo f cs) (by simp[V.cells])) (by simp[V.flatc])
 |nul0=>exact .nul0
 |nul1=>exact .nul1
 |nomp=>exact .nomp
 |mp id ks xs b clk es h0 h1 h2 h3 h4 h5 h6=>exact absurd (hf (.mp id ks xs) (by simp[V.cells])) (by simp[V.flatc])
theorem Vu(hr:RelG c B G s a w h g)(hC:holds s (ixC c C)){x:Operand}{k:TK}(hx:opK g C x=k)(hk:k.isNo=false):
  ((∃e,k= .val e [])∨k= .nil)∨ ∃t,x= .tmp t∧(∃v,a.tmps[t]? =some v∧a.eval x=v∧RelK c.P B s w h (fun p=>a.tmps[p]?) t v k)∧(g.at t).2=k∧U0 (g.at t).1 C=true:=by
 rcases j3 hr hC hx hk with ⟨v,rfl⟩ | ⟨t,rfl,hl,v,hv,hev,hrel⟩ | ⟨f,_,hf⟩;rotate_left 2
 ·exact .inl (.inl ⟨_,hf.symm⟩)
 ·left;simp only[opK]at hx;split at hx
  ·exact .inr hx.symm
  ·split at hx
   ·exact .inl ⟨_,hx.symm⟩
   ·subst hx;simp[TK.isNo]at hk
  ·rename_i heq;simp at heq
  ·rename_i heq;simp at heq
  ·subst hx;simp[TK.isNo]at hk
 ·obtain⟨h1,h2⟩:=Js hl hk;exact .inr ⟨t,rfl,⟨v,hv,hev,hrel⟩,h1,h2⟩
theorem RelK.moved{tm:Nat→Option Value}{t d:Nat}{v:Value}{k:TK}(hk:RelK c.P B s w h tm t v k)(hf:k.free=true):RelK c.P B s w h tm d v k:=by
 cases k<;>first|exact hk|simp[TK.free]at hf
theorem ZK(hr:RelG c B G s a w h g)(hC:holds s (ixC c C)){x:Operand}{k:TK}(hx:opK g C x=k)(hf:k.free=true)(d:Nat):
  RelK c.P B s w h (fun p=>a.tmps[p]?) d (a.eval x) k:=by
 have hn:k.isNo=false:=by cases k<;>first|rfl|simp[TK.free]at hf
 rcases Vu hr hC hx hn with (⟨e,rfl⟩ |rfl) | ⟨t,rfl,⟨v,hv,hev,hrel⟩,_⟩
 ·obtain⟨y,hy,hrd⟩:=YY hr hC hx;exact⟨y,hy,hrd⟩
 ·exact UZ hr hC hx
 ·rw[hev];exact hrel.moved hf
theorem qA(hr:RelG c B G s a w h g)(hC:holds s (ixC c C)){x:Operand}{k:TK}{es:List E}(hp:jx g C x=some (k,es))(d:Nat):
  RelK c.P B s w h (fun p=>a.tmps[p]?) d (a.eval x) k:=by
 unfold jx at hp;split at hp
 ·rename_i hf;simp only[Z8l,Z8w]at hp;obtain⟨rfl,rfl⟩:=hp;exact ZK hr hC rfl hf d
 ·split at hp
  ·rename_i t ty e _ hk;simp only[Z8l,Z8w]at hp;obtain⟨rfl,rfl⟩:=hp;obtain⟨v,hv,_⟩:=hr.look hC (show look g C t=_ from hk) rfl;rw[Act.eval_tmp a t v hv];exact hv
  ·rename_i t cs _ hk;simp only[Z8l,Z8w]at hp;obtain⟨rfl,rfl⟩:=hp;obtain⟨v,hv,⟨b,vs,T,h1,h2,_⟩,_⟩:=hr.look hC (show look g C t=_ from hk) rfl;rw[Act.eval_tmp a t v hv];exact⟨b,h1,h2⟩
  ·rename_i t cs _ hk;simp only[Z8p]at hp;obtain⟨⟨e,sh⟩,he,hp⟩:=hp;simp only[Z8w]at hp;obtain⟨rfl,rfl⟩:=hp;obtain⟨v,hv,hrel,_⟩:=hr.look hC (show look g C t=_ from hk) rfl;rw[Act.eval_tmp a t v hv];exact Z2N hr hv hrel he
  ·simp at hp
theorem SW{fl:Bool}{b:E×List Nat}{v:Value}{y:V}(he:eval s b.1=some y)(hrd:Rd w (h.ext b.2) y v)(hs: ∃z,eval s (flE fl b).1=some z):
  ∃z,eval s (flE fl b).1=some z∧Rd w (h.ext (flE fl b).2) z v:=by
 obtain⟨z,hz⟩:=hs;unfold flE at hz⊢;split
 ·rename_i hb;exact⟨y,he,hrd⟩
 ·split
  ·rename_i hb hfl;simp only[hb,hfl,Z8U,Z9f,Z9c,eval,he,Z8y]at hz;refine⟨z,by simp only[eval,he,Z8y];exact hz,?_⟩;unfold flV at hz;split at hz
   ·simp at hz
   ·rename_i ht;split at hz
    ·rename_i hall;simp only[Z8l]at hz;subst hz;exact hrd.flatAll (fun y hy=>by simpa using Z8A.1 hall y hy) fun l hl=>ht l hl
    ·simp at hz
  ·exact⟨y,he,hrd⟩
theorem JX(hr:RelG c B G s a w h g)(hC:holds s (ixC c C)){ty:TypeId}{x:Operand}{k:TK}{es:List E}(hp:J2 c g C ty x=some (k,es))(hes: ∀e∈es,∃z,eval s e=some z)(d:Nat):
  RelK c.P B s w h (fun p=>a.tmps[p]?) d (a.eval x) k:=by
 unfold J2 at hp;split at hp
 ·rename_i e hk;simp only[Z8l,Z8w]at hp;obtain⟨rfl,rfl⟩:=hp;exact ZK hr hC hk rfl d
 ·rename_i e p sh hk;split at hp
  ·simp only[Z8l,Z8w]at hp;obtain⟨rfl,rfl⟩:=hp;obtain⟨y,hy,hrd⟩:=YY hr hC hk;have:=SW (s:=s) (w:=w) (h:=h) (fl:=true) (b:=(e,p::sh)) hy hrd (by simpa[flE]using hes (.fl e) (by simp));obtain⟨z,hz,hzr⟩:=this;exact⟨z,by simpa[flE]using hz,by simpa[flE]using hzr⟩
  ·simp at hp
 ·rename_i hk;simp only[Z8l,Z8w]at hp;obtain⟨rfl,rfl⟩:=hp;exact ZK hr hC hk rfl d
 ·rename_i f caps hk;simp only[Z8l,Z8w]at hp;obtain⟨rfl,rfl⟩:=hp;exact ZK hr hC hk rfl d
 ·simp at hp
theorem Rl(hr:RelG c B G s a w h g)(hC:holds s (ixC c C)){x:Operand}{k:TK}{es:List E}(hp:T1 g C x=some (k,es))(hes: ∀e∈es,∃z,eval s e=some z)(o:Oper)(ho:o.op= .nilCheck x)(d:Nat):
  ∃v,(execOp a.eval o).run c.P w= .ok (.value v) w∧RelK c.P B s w h (fun p=>a.tmps[p]?) d v k:=by
 unfold execOp;simp only[ho];unfold T1 at hp;split at hp
 ·rename_i cs hk;simp only[Z8l,Z8w]at hp;obtain⟨rfl,rfl⟩:=hp;obtain⟨t,rfl,⟨v,hv,hev,⟨b,vs,T,h1,rfl,_⟩⟩,_⟩:=(Vu hr hC hk rfl).resolve_left (by rintro(⟨e,h⟩ |h)<;>cases h);rw[hev];exact⟨_,rfl,b,h1,rfl⟩
 ·rename_i p q hk;simp only[Z8l,Z8w]at hp;obtain⟨rfl,rfl⟩:=hp;obtain⟨b,h1,h2⟩:=ZK hr hC hk rfl d;rw[h2];exact⟨_,rfl,b,h1,rfl⟩
 ·rename_i e sh hk;simp only[Z8l,Z8w]at hp;obtain⟨rfl,rfl⟩:=hp;obtain⟨y,hy,hrd⟩:=YY hr hC hk;obtain⟨z,hz⟩:=hes _ (List.Mem.head _);generalize a.eval x=v at hrd;simp only[eval,hy,Z8y]at hz;unfold Sr at hz;split at hz
  ·cases hrd with
   |ptr _ b o vs h1 h2 h3 h4=>exact⟨_,rfl,_,hy,.ptr _ b o vs h1 h2 h3 h4⟩
  ·cases hz
 ·simp at hp
theorem JR(hr:RelG c B G s a w h g){T:TypeId}(hT:okT c.P T=true){p o:Nat}{k:TK}(hl:Z1Z c g T p o=some k){b:Nat}(hb:h.bl p 0=some b)(d:Nat):
  Has c B s w h (fun p=>a.tmps[p]?) d k (Instr.loadAt T (.pointer (some ⟨b,o,none⟩))):=by
 unfold Z1Z at hl;simp only[Z8m]at hl;obtain⟨cs,hm,hl⟩:=hl;obtain⟨b',vs,ty,h1,_,hh,hcs⟩:=hr.memOf hm;rw[hb]at h1;cases h1;split at hl
 ·rename_i hag;split at hl
  ·rename_i hcond;obtain⟨hn,hd,h0⟩:=hcond;simp only[Z8l]at hl;obtain⟨x,hx,hxl,hone,hrd,hvs⟩:=hcs.part_rd hn hd (G':=h.ext (if V6 ((cs.drop o).take (c.P.cellsOf T))=true then [p]else [])) (fun b hb=>GH.ext_F hb) (fun ho i b hb=>by rw[if_pos ho];exact .inr ⟨p,by simp,i,hb⟩);refine⟨_,S9 hT hag ((vs.toList.drop o).take (c.P.cellsOf T)) ?_ (fun i u hi=> ?_),?_⟩
   ·have h2:=hcs.1;simp only[Z9N,ZaV,Zaj]at hn⊢;omega
   ·rw[Z8s w b (o+i) vs ty (0,0) hh];exact hvs i u hi
   ·rw[←hl];refine⟨.agg x,?_,hrd⟩;split
    ·rename_i hp;exact Qd hp (by rw[hn];exact h0) hx hone
    ·exact hx
  ·simp at hl
 ·rename_i hag;have hag':Zn c.P T=false:=by simpa using hag
  split at hl
  ·rename_i e hc;simp only[Z8l]at hl;obtain⟨x,hx,h1,hrd⟩:=hcs.2 o _ hc;have hlt:o<vs.size:=by rw[hcs.1];exact(Z8o.1 hc).1
   refine⟨vs.getD o undef,V0 hT hag' (by rw[Z8s w b o vs ty (0,0) hh];simp[Z8q,hlt]),?_⟩;rw[←hl];exact⟨x,hx,hrd.mono fun b hb=>GH.ext_F hb⟩
  ·rename_i ty' e hc;simp only[Z8l]at hl;have hlt:o<vs.size:=by rw[hcs.1];exact(Z8o.1 hc).1
   have hcell:w.cell? ⟨b,o,none⟩=some (vs.getD o undef):=by rw[Z8s w b o vs ty (0,0) hh];simp[Z8q,hlt]
   refine⟨vs.getD o undef,V0 hT hag' hcell,?_⟩;rw[←hl];exact⟨b,hb,hcell⟩
  ·rename_i e hc;simp only[Z8l]at hl;obtain⟨hnil,_⟩:=hcs.2 o _ hc;have hlt:o<vs.size:=by rw[hcs.1];exact(Z8o.1 hc).1
   have hcell:w.cell? ⟨b,o,none⟩=some (vs.getD o undef):=by rw[Z8s w b o vs ty (0,0) hh];simp[Z8q,hlt]
   refine⟨vs.getD o undef,V0 hT hag' hcell,?_⟩;rw[←hl];exact hnil
  ·simp at hl
theorem TC{x i z:V}{n k:Nat}{ag:Bool}(hz:aiV x i n k ag=some z): ∃cs ki j,x= .agg cs∧i= .int ki (j:Nat)∧j<n∧cs.length=n*k∧
  (if ag then some (V.agg ((cs.drop (j*k)).take k))else cs[j*k]?)=some z:=by
 unfold aiV at hz;split at hz
 ·rename_i cs ki i;split at hz
  ·rename_i hc;obtain⟨h0,h1,h2⟩:=hc;obtain⟨j,rfl⟩:=Z8H h0;exact⟨cs,ki,j,rfl,rfl,by omega,h2,by simpa using hz⟩
  ·simp at hz
 ·simp at hz
theorem Z0e(hr:RelG c B G s a w h g){T:TypeId}(hT:okT c.P T=true){p o:Nat}{j:E}{m kk:Nat}{k:TK}(hl:Z2V c g T p o j m kk=some k)(hes: ∀e∈valE k,∃z,eval s e=some z)
  {b q:Nat} (hb:h.bl p 0=some b) {ki:IntKind} (hj:eval s j=some (.int ki (q:Nat))) (hq:q<m) (d:Nat):
  Has c B s w h (fun p=>a.tmps[p]?) d k (Instr.loadAt T (.pointer (some ⟨b,o+q*kk,none⟩))):=by
 unfold Z2V at hl;simp only[Z8m]at hl;obtain⟨cs,hm,hl⟩:=hl;obtain⟨b',vs,ty,h1,_,hh,hcs⟩:=hr.memOf hm;rw[hb]at h1;cases h1;split at hl
 ·rename_i hcond;obtain⟨hn,hk,h0,how,hd⟩:=hcond;simp only[Z8l]at hl;obtain⟨x,hx,hxl,hone,hrd,hvs⟩:=hcs.part_rd hn hd (G':=h.F) (fun b hb=>hb) (fun ho=>by rw[how]at ho;cases ho)
  have hev:eval s (if YL (c.ix p) o ((cs.drop o).take (m*kk))=true then E.mm (c.ix p) o ((cs.drop o).take (m*kk)).length else .ag (((cs.drop o).take (m*kk)).map (·.2)))=some (.agg x):=by
   split
   ·rename_i hp;exact Qd hp (by rw[hn];exact h0) hx hone
   ·exact hx
  generalize (if YL (c.ix p) o ((cs.drop o).take (m*kk))=true then E.mm (c.ix p) o ((cs.drop o).take (m*kk)).length else .ag (((cs.drop o).take (m*kk)).map (·.2)))=ee at hev hl;subst hl;obtain⟨z,hz⟩:=hes _ (List.Mem.head _);simp only[eval,hev,hj,Z8y]at hz;obtain⟨cs',ki',j',hcs',hj',hlt,hlen,hzz⟩:=TC hz;cases hcs'
  have hjq:j'=q:=by
   simp only[V.int.injEq]at hj';omega
  subst hjq
  have hle:j'*kk+kk≤m*kk:=by
   rw[←Z9M];exact Z93 _ hlt
  have hcell: ∀i,i<m*kk→w.cell? ⟨b,o+i,none⟩=some (vs.getD (o+i) undef):=by
   intro i hi;have hi':i< ((cs.drop o).take (m*kk)).length:=by rw[hn];exact hi
   have:=(hcs.part hn i _ (Z8n hi')).2;rw[Z8s w b (o+i) vs ty (0,0) hh,this]
  have hrdc: ∀i y,x[i]? =some y→y.one=true∧Rd w h.F y (vs.getD (o+i) undef):=by
   intro i y hi;have hlt':i<m*kk:=by rw[←hxl];exact(Z8o.1 hi).1
   cases hrd with
   |agg _ _ h1 h2 h3=>
    have:=h3 i y hi
    have hg:((vs.toList.drop o).take (m*kk)).toArray.getD i undef=vs.getD (o+i) undef:=by
     simp only[Z8q,Z9S,Z8T,if_pos hlt',Z8N,Z9p]
    rw[hg]at this;exact⟨h2 y (Z8x hi),this⟩
  cases hag:Zn c.P T with
  |false=>
   rw[hag]at hzz hz;simp only[Z8U,Z9f]at hzz;have hlt2:j'*kk<m*kk:=by rw[←hxl];exact(Z8o.1 hzz).1
   refine⟨_,V0 hT hag (hcell _ hlt2),z,by simp only[eval,hev,hj,Z8y];exact hz,(hrdc _ z hzz).2.mono fun b hb=>GH.ext_F hb⟩
  |true=>
   rw[hag]at hzz hz;simp only[Z9c,Z8l]at hzz;subst hzz;refine⟨.agg ((List.range kk).map fun i=>vs.getD (o+(j'*kk+i)) undef).toArray,S9 hT hag _ (by simp[hk]) (fun i u hi=> ?_),_,by simp only[eval,hev,hj,Z8y];exact hz,?_⟩
   ·have hlt2:i<kk:=by simpa using(Z8o.1 hi).1
    have:vs.getD (o+(j'*kk+i)) undef=u:=by simpa[hlt2]using hi
    rw[←this,show o+j'*kk+i=o+(j'*kk+i)from by omega];exact hcell _ (by omega)
   ·have hlen2:((x.drop (j'*kk)).take kk).length=kk:=by simp;omega
    refine .agg _ _ (by simp only[Z9F,Z8P,Zbb,hlen2]) (fun y hy=> ?_) fun i y hi=> ?_
    ·obtain⟨i,hi⟩:=Z8O (Z9Y (Z9g hy));exact(hrdc i y hi).1
    ·have hlt2:i<kk:=by have:=(Z8o.1 hi).1;omega
     rw[Z8T,if_pos hlt2,Z8N]at hi
     have:((List.range kk).map fun i=>vs.getD (o+(j'*kk+i)) undef).toArray.getD i undef=vs.getD (o+(j'*kk+i)) undef:=by
      simp[Z8q,hlt2]
     rw[this];exact(hrdc _ y hi).2.mono fun b hb=>GH.ext_F hb
 ·simp at hl
theorem OwnV.elem{o:Option Nat}{ty:TypeId}{x:V}{v:Value}(hv:OwnV c.P B w h o ty x v){ki:IntKind}{q:Nat}{y:V}{kk:Nat}(hy:idxV x (.int ki (q:Nat)) kk=some y):
  ∃l n cap cur,∃xs:Nat→Value,x= .sl l∧l[q]? =some y∧o=some n∧v= .slice (some ⟨n,0,none⟩) l.length cap∧w.heap[n]? =some (.cells cur ty (0,0))∧y.fits (c.P.cellsOf ty)∧q*c.P.cellsOf ty+c.P.cellsOf ty≤cur.size∧
   (∀i,i<c.P.cellsOf ty→w.cell? ⟨n,q*c.P.cellsOf ty+i,none⟩=some (xs i))∧ ∀i z,y.cells[i]? =some z→Rd w h.F z (xs i):=by
 rcases hv with ⟨l,xs,rfl,h0,hfit,hown,hb,hrd⟩ | ⟨_,_,_,_,_,_,rfl,_⟩
 case inr=>simp[idxV]at hy
 simp only[idxV]at hy;split at hy
 ·rw[Z8B,Z8m]at hy;obtain⟨y',hy,hy'⟩:=hy;split at hy'<;>first| (simp only[Z8l]at hy';subst y') | (simp at hy';done)
  have hlt:=(Z8o.1 hy).1;rcases hown.2 with ⟨rfl,hn⟩ | ⟨n,cap,cur,rfl,_,hh,hle,_,hsz,htk⟩
  ·omega
  ·have hle':q*c.P.cellsOf ty+c.P.cellsOf ty≤l.length*c.P.cellsOf ty:=by
    rw[←Z9M];exact Z93 _ hlt
   have hle2:l.length*c.P.cellsOf ty≤cur.size:=by rw[hsz];exact Z93 _ hle
   refine⟨l,n,cap,cur,fun i=>cur.getD (q*c.P.cellsOf ty+i) undef,rfl,hy,by rw[←hb];rfl,rfl,hh,hfit y (Z8x hy),by omega,fun i hi=> ?_,fun i z hz=> ?_⟩
   ·rw[Z8s w n _ cur ty (0,0) hh];have:q*c.P.cellsOf ty+i<cur.size:=by omega
    simp[Z8q,this]
   ·have hi:i<c.P.cellsOf ty:=by
     have:=(Z8o.1 hz).1;rw[(hfit y (Z8x hy)).1]at this;exact this
    obtain⟨u,hu,hru⟩:=hrd (q*c.P.cellsOf ty+i) z (by rw[WA hfit hy i hi];exact hz)
    have:cur.getD (q*c.P.cellsOf ty+i) undef=u:=by
     rw[←htk,Z8T,if_pos (by omega)]at hu;have hu':cur[q*c.P.cellsOf ty+i]? =some u:=by simpa using hu
     simp[Z8q,hu']
    show Rd w h.F z (cur.getD (q*c.P.cellsOf ty+i) undef);rw[this];exact hru
 ·simp at hy
theorem qW{x:V}{k:Nat}(h:x.fits k):x.pc=x.cells:=by
 cases x<;>first|rfl| (have:=h.2 (.tup _) (Za9.2 rfl);simp[V.one]at this)
theorem ji(hr:RelG c B G s a w h g){T:TypeId}(hT:okT c.P T=true){p:Nat}{i:Option Nat}{j:E}{o kk:Nat}{k:TK}(hl:Z3E c g T p i j o kk=some k)(hes: ∀e∈valE k,∃z,eval s e=some z)
  {n q:Nat} (hb:h.bl p (plI i)=some n) {ki:IntKind} (hj:eval s j=some (.int ki (q:Nat))) (d:Nat):
  Has c B s w h (fun p=>a.tmps[p]?) d k (Instr.loadAt T (.pointer (some ⟨n,q*kk+o,none⟩))):=by
 unfold Z3E at hl;simp only[Z8m]at hl;obtain⟨⟨ty,e⟩,ho,hl⟩:=hl;split at hl
 ·rename_i hk;simp only[Z8l]at hl;subst hl;obtain⟨v,x,_,hx,hown⟩:=hr.place ho;obtain⟨z,hz⟩:=hes _ (List.Mem.head _)
  have hidx: ∃y,eval s (.idx e j kk)=some y:=by
   unfold Jg at hz;split at hz
   ·simp only[eval]at hz⊢;cases hy:((eval s e).bind fun x=>(eval s j).bind fun y=>idxV x y kk)with
    |none=>rw[hy]at hz;simp at hz
    |some y=>exact⟨y,rfl⟩
   ·simp only[eval]at hz⊢;cases hy:((eval s e).bind fun x=>(eval s j).bind fun y=>idxV x y kk)with
    |none=>rw[hy]at hz;simp at hz
    |some y=>exact⟨y,rfl⟩
  obtain⟨y,hy⟩:=hidx
  have hy':idxV x (.int ki (q:Nat)) kk=some y:=by
   simp only[eval,hx,hj,Z8y]at hy;exact hy
  obtain⟨l,n',cap,cur,xs,rfl,hly,hn,rfl,hh,hfit,_,hcell,hrd⟩:=hown.elem hy';rw[hb]at hn;simp only[Z8l]at hn;subst hn;rw[hk]at hcell hfit;have hpc:y.pc=y.cells:=qW hfit;exact KI (c:=c) (B:=B) (sh:= [p]) hT (b:=n) (q:=q*kk) (o:=o) (vs:=xs) (by rw[hpc];exact hfit.2) (by rw[hpc,hfit.1];exact hcell) (fun i z hz=>by rw[hpc]at hz;exact(hrd i z hz).mono fun b hb=>GH.ext_F hb) hy ⟨z,hz⟩ _ d
 ·simp at hl
theorem yX(hr:RelG c B G s a w h g)(hC:holds s (ixC c C)){T:TypeId}{x:Operand}{k:TK}{es:List E}(hp:Z0N c g C T x=some (k,es))(hes: ∀e∈es,∃z,eval s e=some z)(d:Nat):
  Has c B s w h (fun p=>a.tmps[p]?) d k (Instr.loadAt T (a.eval x)):=by
 unfold Z0N at hp;split at hp
 ·rename_i hT;simp only[Z8p,Z8w]at hp;obtain⟨k',hl,rfl,rfl⟩:=hp;unfold Z4w at hl;split at hl
  ·rename_i cs hk;obtain⟨t,rfl,⟨v,hv,hev,⟨b,vs,ty,h1,rfl,_⟩⟩,_⟩:=(Vu hr hC hk rfl).resolve_left (by rintro(⟨e,h⟩ |h)<;>cases h);rw[hev];exact JR hr hT hl h1 d
  ·rename_i p o hk;obtain⟨b,h1,h2⟩:=ZK hr hC hk rfl d;rw[h2];exact JR hr hT hl h1 d
  ·rename_i e o sh hk;simp only[Z8l]at hl;subst hl;obtain⟨y,b,q,vs,h0,h1,h2,h3,h4,h5⟩:=ZK hr hC hk rfl d;rw[h1];exact KI hT h3 h4 h5 h0 (hes _ (List.Mem.head _)) _ d
  ·rename_i e sh hk;simp only[Z8l]at hl;subst hl;obtain⟨y,hy,hrd⟩:=YY hr hC hk;obtain⟨z,hz⟩:=hes _ (List.Mem.head _)
   have hst: ∃u,Sr y=some u:=by
    unfold Jg at hz;cases hu:Sr y with
    |none=>split at hz<;>simp[eval,hy,hu]at hz
    |some u=>exact⟨u,rfl⟩
   obtain⟨u,hu⟩:=hst;generalize a.eval x=v at hrd;cases hrd with
   |ptr cs b o vs h1 h2 h3 h4=>
    simp only[Sr,Z8l]at hu;subst hu;exact KI (c:=c) (B:=B) (sh:=sh) hT (x:= .agg cs) (b:=b) (q:=o) (o:=0) (vs:=vs) h2 h3 h4 (by simp[eval,hy,Sr]) ⟨z,hz⟩ _ d
   |_=>simp[Sr]at hu
  ·rename_i p i j o kk hk;obtain⟨n,q,h1,⟨ki,h2⟩,h3⟩:=ZK hr hC hk rfl d;rw[h3];exact ji hr hT hl hes h1 h2 d
  ·rename_i p o j m kk hk;obtain⟨b,q,h1,⟨ki,h2⟩,h3,h4⟩:=ZK hr hC hk rfl d;rw[h4];exact Z0e hr hT hl hes h1 h2 h3 d
  ·simp at hl
 ·simp at hp
end
end Vm
namespace Vm
open Go
open Go.RowKit (Below)
section
variable {c:Ctx} {B:Nat} {G:Nat→Prop} {s:St} {a:Act} {w:World} {h:GH} {g:Gam} {C:Zg}
theorem WF{P:Program}{T:TypeId}(h:P.cellsOf T≠0): ∃i,P.info? T=some i∧P.cellsOf T=i.size:=by
 unfold Program.cellsOf at h⊢;cases hi:P.info? T with
 |none=>simp[hi]at h
 |some i=>exact⟨i,rfl,by simp⟩
theorem Z4S{P:Program}{T:TypeId}{fs:List (Nat×Nat×Bool×Bool)}(h:tdOf P T= .st fs): ∃fds,P.underlying T=some (.struct fds)∧(∀fd∈fds,okT P fd.type=true)∧fs=fds.toList.map fun f=>(f.offset,P.cellsOf f.type,Zn P f.type,Xh P f.type):=by
 unfold tdOf at h;split at h<;>first| (cases h;done) |skip
 rename_i e he;split at h
 ·rename_i hall;cases h;exact⟨_,he,fun fd hfd=>Z8A.1 hall fd (ZaR.2 hfd),rfl⟩
 ·cases h
theorem Tg{P:Program}{T:TypeId}{f:Nat}{x:Nat×Nat×Bool×Bool}(hf:SD P T f=some x):
  ∃fs fd,P.underlying T=some (.struct fs)∧fs[f]? =some fd∧okT P fd.type=true∧x=(fd.offset,P.cellsOf fd.type,Zn P fd.type,Xh P fd.type):=by
 unfold SD at hf;split at hf
 ·rename_i fs htd;obtain⟨fds,hu,hall,rfl⟩:=Z4S htd;rw[Z8D,Z9p,Z8p]at hf;obtain⟨fd,h1,h2⟩:=hf;exact⟨fds,fd,hu,h1,hall fd (Array.mem_of_getElem? h1),h2.symm⟩
 ·cases hf
theorem Xu{T:TypeId}{f b o:Nat}{x:Nat×Nat×Bool×Bool}(hf:SD c.P T f=some x)(hn:x.2.1≠0):
  (Instr.fieldAt T (.pointer (some ⟨b,o,none⟩)) f).run c.P w= .ok (.pointer (some ⟨b,o+x.1,none⟩)) w:=by
 obtain⟨fs,fd,hu,hfd,_,rfl⟩:=Tg hf;obtain⟨i,hi,hs⟩:=WF hn;simp only at hn hs;have hn':i.size≠0:=by rw[←hs];exact hn
 simp[Instr.fieldAt,Z8X hu,hfd,Instr.sureAddr,fieldPlace,Yr hi,hn',Za0]
theorem Lm(hr:RelG c B G s a w h g)(hC:holds s (ixC c C)){T:TypeId}{x:Operand}{f:Nat}{k:TK}{es:List E}(hp:Lq c g C T x f=some (k,es))(hes: ∀e∈es,∃z,eval s e=some z)(d:Nat):
  Has c B s w h (fun p=>a.tmps[p]?) d k (Instr.fieldAt T (a.eval x) f):=by
 unfold Lq at hp;simp only[Z8m]at hp;obtain⟨y,hf,hp⟩:=hp;split at hp
 ·simp at hp
 ·rename_i hn;split at hp
  ·rename_i cs hk;simp only[Z8l,Z8w]at hp;obtain⟨rfl,rfl⟩:=hp;obtain⟨t,rfl,⟨v,hv,hev,⟨b,vs,ty,h1,rfl,_⟩⟩,_⟩:=(Vu hr hC hk rfl).resolve_left (by rintro(⟨e,h⟩ |h)<;>cases h);rw[hev];exact⟨_,Xu hf hn,b,h1,by rw[Z97]⟩
  ·rename_i p q hk;simp only[Z8l,Z8w]at hp;obtain⟨rfl,rfl⟩:=hp;obtain⟨b,h1,h2⟩:=ZK hr hC hk rfl d;rw[h2];exact⟨_,Xu hf hn,b,h1,rfl⟩
  ·rename_i e q sh hk;simp only[Z8l,Z8w]at hp;obtain⟨rfl,rfl⟩:=hp;obtain⟨z,b,r,vs,h0,h1,h2,h3,h4,h5⟩:=ZK hr hC hk rfl d;rw[h1];exact⟨_,Xu hf hn,z,b,r,vs,h0,by rw[Z9i],h2,h3,h4,h5⟩
  ·rename_i e sh hk;simp only[Z8l,Z8w]at hp;obtain⟨rfl,rfl⟩:=hp;obtain⟨u,hu,hrd⟩:=YY hr hC hk;obtain⟨z,hz⟩:=hes _ (List.Mem.head _);simp only[eval,hu,Z8y]at hz;generalize a.eval x=v at hrd;cases hrd with
   |ptr cs b o vs h1 h2 h3 h4=>
    exact⟨_,Xu hf hn,.agg cs,b,o,vs,by simp[eval,hu,Sr],rfl,h1,h2,h3,h4⟩
   |_=>simp[Sr]at hz
  ·rename_i p i j q kk hk;simp only[Z8l,Z8w]at hp;obtain⟨rfl,rfl⟩:=hp;obtain⟨n,r,h1,h2,h3⟩:=ZK hr hC hk rfl d;rw[h3];exact⟨_,Xu hf hn,n,r,h1,h2,by rw[Z9i]⟩
  ·simp at hp
theorem qH{P:Program}{T el:TypeId}(h:tdOf P T= .sl el):P.underlying T=some (.slice el):=by
 unfold tdOf at h;split at h<;>(try split at h)<;>first| (cases h;done) |skip
 rename_i e he;cases h;exact he
theorem Z3c{P:Program}{T el:TypeId}{n:Nat}(h:tdOf P T= .ar n el):P.underlying T=some (.array n el):=by
 unfold tdOf at h;split at h<;>(try split at h)<;>first| (cases h;done) |skip
 rename_i n e he;cases h;exact he
theorem J4{x j z:V}{k:Nat}(hz:idxV x j k=some z): ∃l ki q,x= .sl l∧j= .int ki (q:Nat)∧l[q]? =some z∧z.cells.length=k:=by
 unfold idxV at hz;split at hz
 ·rename_i l ki i;split at hz
  ·rename_i h0;obtain⟨q,rfl⟩:=Z8H h0;rw[Z8B,Z8m]at hz;obtain⟨y',hy,hy'⟩:=hz;split at hy'<;>first| (simp only[Z8l]at hy';subst y') | (simp at hy';done)
   exact⟨l,ki,q,rfl,rfl,hy,by assumption⟩
  ·simp at hz
 ·simp at hz
theorem Rd.int_eq{G':Nat→Prop}{ki:IntKind}{n:Int}{v:Value}(h:Rd w G' (.int ki n) v):v= .int ki n:=by cases h;rfl
theorem S6{T el:TypeId}(hT:c.P.underlying T=some (.slice el))(hel:okT c.P el=true){b o len cap:Nat}{ki:IntKind}{q:Nat}(hq:q<len):
  (Instr.indexAt T (.slice (some ⟨b,o,none⟩) len cap) (.int ki (q:Nat))).run c.P w= .ok (.pointer (some ⟨b,o+q*c.P.cellsOf el,none⟩)) w:=by
 obtain⟨dd,i,hd,hi,hs,_⟩:=Wy hel;have h1:(0:Int)≤(q:Nat)∧((q:Nat):Int) < (len:Nat):=by omega
 simp[Instr.indexAt,asIntOf,Z8X hT,hq,Yr hi,hs,Za0]
theorem SL(hr:RelG c B G s a w h g)(hC:holds s (ixC c C)){T:TypeId}{x i:Operand}{k:TK}{es:List E}(hp:VV c g C T x i=some (k,es))(hes: ∀e∈es,∃z,eval s e=some z)(d:Nat):
  Has c B s w h (fun p=>a.tmps[p]?) d k (Instr.indexAt T (a.eval x) (a.eval i)):=by
 unfold VV at hp;split at hp
 ·rename_i el hT;have hT':=qH hT;simp only[Z8m]at hp;obtain⟨⟨j,sj⟩,hj,hp⟩:=hp;obtain⟨y,hy,hyr⟩:=YR hr hC hj
  have own: ∀ {p:Nat} {pi:Option Nat},opK g C x=R8 p pi→TG c g p pi el j=some (k,es)→Has c B s w h (fun p=>a.tmps[p]?) d k (Instr.indexAt T (a.eval x) (a.eval i)):=by
   intro p pi hk hio;unfold TG at hio;simp only[Z8m]at hio;obtain⟨⟨ty,e⟩,ho,hio⟩:=hio;split at hio
   ·rename_i hcel;obtain⟨hcel,hokel⟩:=hcel;simp only[Z8l,Z8w]at hio;obtain⟨rfl,rfl⟩:=hio;have hrel:=ZK hr hC hk (by cases pi<;>rfl) 0;obtain⟨xv,hxv,hown⟩:=hr.ownAt ho hrel;obtain⟨z,hz⟩:=hes _ (List.Mem.head _);simp only[eval,hxv,hy,Z8y]at hz;have hz':=hz;obtain⟨l,ki,q,rfl,rfl,hlz,_⟩:=J4 hz;obtain⟨l',n,cap,cur,xs,hl',_,hbl,hv,_⟩:=hown.elem hz';cases hl';rw[hv,hyr.int_eq];refine⟨_,S6 hT' hokel (Z8o.1 hlz).1,n,q,?_,⟨ki,hy⟩,by rw[Z97,Za6]⟩;cases pi<;>exact hbl
   ·simp at hio
  split at hp
  ·rename_i p hk;exact own (pi:=none) hk hp
  ·rename_i p q hk;exact own (pi:=some q) hk hp
  ·rename_i e sh hk;split at hp
   ·rename_i hokel;simp only[Z8l,Z8w]at hp;obtain⟨rfl,rfl⟩:=hp;obtain⟨u,hu,hrd⟩:=YY hr hC hk;obtain⟨z,hz⟩:=hes _ (List.Mem.head _);have hz0:=hz;simp only[eval,hu,hy,Z8y]at hz;obtain⟨l,ki,q,rfl,rfl,hlz,hzk⟩:=J4 hz;rw[hyr.int_eq];generalize a.eval x=v at hrd;cases hrd with
    |nil a' cap hc=>simp at hlz
    |sl _ b o cap kk vs h1 h2 h3 h4 h5 h6=>
     have hfit:=h4 z (Z8x hlz);have hkk:kk=c.P.cellsOf el:=by rw[←hfit.1,hzk]
     subst hkk;have hlt:=(Z8o.1 hlz).1
     have hle:q*c.P.cellsOf el+c.P.cellsOf el≤l.length*c.P.cellsOf el:=by
      rw[←Z9M];exact Z93 _ hlt
     have hpc:=qW hfit;refine⟨_,S6 hT' hokel hlt,z,b,o+q*c.P.cellsOf el,fun i=>vs (q*c.P.cellsOf el+i),hz0,by rw[Za6],h3,by rw[hpc];exact hfit.2,fun i hi=> ?_,fun i u hi=> ?_⟩
     ·rw[hpc,hfit.1]at hi;rw[Z9i];exact h5 _ (by omega)
     ·rw[hpc]at hi;have hi':i<c.P.cellsOf el:=by rw[←hfit.1];exact(Z8o.1 hi).1
      exact h6 _ u (by rw[WA h4 hlz i hi'];exact hi)
   ·simp at hp
  ·simp at hp
 ·rename_i n el hT;have hT':=Z3c hT;split at hp
  ·simp at hp
  ·rename_i hokel;simp only[ZaE,Bool.not_eq_false']at hokel;simp only[Z8m]at hp;obtain⟨⟨j,sj⟩,hj,hp⟩:=hp;obtain⟨y,hy,hyr⟩:=YR hr hC hj
   have fin: ∀ {p o b:Nat},a.eval x= .pointer (some ⟨b,o,none⟩)→h.bl p 0=some b→some (TK.pa p o j n (c.P.cellsOf el),[E.ai (.c (.agg (List.replicate n (.bool true)))) j n 1 false])=some (k,es)→Has c B s w h (fun p=>a.tmps[p]?) d k (Instr.indexAt T (a.eval x) (a.eval i)):=by
    intro p o b hev hb heq;simp only[Z8l,Z8w]at heq;obtain⟨rfl,rfl⟩:=heq;obtain⟨z,hz⟩:=hes _ (List.Mem.head _);simp only[eval,hy,Z8y]at hz;obtain⟨cs,ki,q,_,rfl,hq,_⟩:=TC hz;rw[hev,hyr.int_eq];obtain⟨dd,info,hd,hi,hs,_⟩:=Wy hokel;refine⟨_,?_,b,q,hb,⟨ki,hy⟩,hq,rfl⟩;simp[Instr.indexAt,asIntOf,Z8X hT',hq,Yr hi,hs,Za0,Instr.sureAddr]
   split at hp
   ·rename_i cs hk;obtain⟨t,rfl,⟨v,hv,hev,⟨b,vs,ty,h1,rfl,_⟩⟩,_⟩:=(Vu hr hC hk rfl).resolve_left (by rintro(⟨e,h⟩ |h)<;>cases h);exact fin hev h1 hp
   ·rename_i p o hk;obtain⟨b,h1,h2⟩:=ZK hr hC hk rfl d;exact fin h2 h1 hp
   ·rename_i e o sh hk;simp only[Z8l,Z8w]at hp;obtain⟨rfl,rfl⟩:=hp;obtain⟨u,b,q0,vs,he,hv,hext,hone,hcell,hrd⟩:=ZK hr hC hk rfl d;obtain⟨z,hz⟩:=hes _ (List.Mem.head _);have hz0:=hz;simp only[eval,he,hy,Z8y,Z8m]at hz;obtain⟨cs,hcs,hz⟩:=hz;obtain⟨hle,rfl⟩:=Vl hcs;obtain⟨cs',ki,q,hcc,rfl,hq,hlen,hzz⟩:=TC hz;cases hcc;simp only[Z9c,Z8l]at hzz;rw[hv,hyr.int_eq];obtain⟨dd,info,hd,hi,hs,_⟩:=Wy hokel
    have hle2:q*c.P.cellsOf el+c.P.cellsOf el≤n*c.P.cellsOf el:=by
     rw[←Z9M];exact Z93 _ hq
    have hat: ∀(i:Nat) (x:V),z.pc[i]? =some x→i<c.P.cellsOf el∧u.pc[o+q*c.P.cellsOf el+i]? =some x:=by
     intro i x hx;rw[←hzz]at hx;simp only[V.pc,Z8T]at hx;split at hx
     ·rename_i hik;rw[Z8N,Z8T,if_pos (by omega),Z8N]at hx;exact⟨hik,by rw[←hx];congr 1;omega⟩
     ·cases hx
    refine⟨_,?_,z,b,q0+(o+q*c.P.cellsOf el),fun i=>vs (o+q*c.P.cellsOf el+i),hz0,rfl,hext,?_,?_,?_⟩
    ·simp[Instr.indexAt,asIntOf,Z8X hT',hq,Yr hi,hs,Za0,Instr.sureAddr,Z9i]
    ·intro x hx;obtain⟨i,hi⟩:=Z8O hx;exact hone x (Z8x (hat i x hi).2)
    ·intro i hi;have:=hat i _ (Z8n hi);rw[Z9i];exact hcell _ (Z8o.1 this.2).1
    ·intro i x hx;exact hrd _ x (hat i x hx).2
   ·simp at hp
 ·simp at hp
theorem Lb{x z:V}(h:oneV x=some z):z.one=true:=(X8 h).2
theorem RH{kc:KC}{x k v z:V}(h:QI kc x k v=some z): ∃id ks vs ks' vs',x= .mp id ks vs∧z= .mp id ks' vs':=by
 unfold QI at h;split at h
 ·cases h
 cases x<;>simp only at h<;>first| (cases h;done) |skip
 split at h
 ·simp only[Z8l]at h;exact⟨_,_,_,_,_,rfl,h.symm⟩
 ·simp only[Z8l]at h;exact⟨_,_,_,_,_,rfl,h.symm⟩
 ·cases h
theorem Um: ∀(e:E) (x:V),e.sure=true→eval s e=some x→x.one=true
 | .c v,x,h,he=>by simp only[eval,Z8l]at he;subst he;exact h
 | .m t i,x,_,he=>by
   simp only[eval]at he;split at he
   ·rw[Z8m]at he;obtain⟨y,_,h1⟩:=he;exact Lb h1
   ·simp at he
 | .bin op a b,x,_,he=>by
   simp only[eval,Z8m]at he;obtain⟨y,_,z,_,h1⟩:=he;cases y<;>cases z<;>cases op<;>simp only[binV]at h1<;>(try split at h1)<;>(try simp only[Z8l]at h1)<;>(try subst h1)<;>first|rfl|simp at h1
 | .eqv n a b,x,_,he=>by
   simp only[eval,Z8m]at he;obtain⟨y,_,z,_,h1⟩:=he;cases y<;>cases z<;>simp only[eqV]at h1<;>(try simp only[Z8l]at h1)<;>(try subst h1)<;>first|rfl|simp at h1
 | .un op a,x,_,he=>by
   simp only[eval,Z8m]at he;obtain⟨y,_,h1⟩:=he;cases y<;>cases op<;>simp only[unV]at h1<;>(try simp only[Z8l]at h1)<;>(try subst h1)<;>first|rfl|simp at h1
 | .conv k a,x,_,he=>by
   simp only[eval,Z8m]at he;obtain⟨y,_,h1⟩:=he;cases y<;>simp only[qR]at h1<;>(try simp only[Z8l]at h1)<;>(try subst h1)<;>first|rfl|simp at h1
 | .len a,x,_,he=>by
   simp only[eval,Z8m]at he;obtain⟨y,_,h1⟩:=he;cases y<;>simp only[lenV]at h1<;>(try simp only[Z8l]at h1)<;>(try subst h1)<;>first|rfl|simp at h1
 | .mn a b,x,_,he=>by
   simp only[eval,Z8m]at he;obtain⟨y,_,z,_,h1⟩:=he;cases y<;>cases z<;>simp only[minV]at h1<;>(try simp only[Z8l]at h1)<;>(try subst h1)<;>first|rfl|simp at h1
 | .mx a b,x,_,he=>by
   simp only[eval,Z8m]at he;obtain⟨y,_,z,_,h1⟩:=he;cases y<;>cases z<;>simp only[maxV]at h1<;>(try simp only[Z8l]at h1)<;>(try subst h1)<;>first|rfl|simp at h1
 | .mput kc a k v,x,_,he=>by
   simp only[eval,Z8m]at he;obtain⟨y,_,z,_,u,_,h1⟩:=he;obtain⟨_,_,_,_,_,_,rfl⟩:=RH h1;rfl
 | .mlen a,x,_,he=>by
   simp only[eval,Z8m]at he;obtain⟨y,_,h1⟩:=he;cases y<;>simp only[Jz]at h1<;>(try simp only[Z8l]at h1)<;>(try subst h1)<;>first|rfl|simp at h1
 | .mclr a,x,_,he=>by
   simp only[eval,Z8m]at he;obtain⟨y,_,h1⟩:=he;cases y<;>simp only[Z05]at h1<;>(try simp only[Z8l]at h1)<;>(try subst h1)<;>first|rfl|simp at h1
 | .fld a o,x,_,he=>by
   simp only[eval,Z8m,fldV]at he;obtain⟨y,_,z,_,h1⟩:=he;exact Lb h1
 | .slc a lo hi k,x,_,he=>by
   simp only[eval,Z8m]at he;obtain⟨y,_,z,_,u,_,h1⟩:=he;unfold slcV at h1;split at h1
   ·split at h1
    ·simp only[Z8l]at h1;subst h1;rfl
    ·simp at h1
   ·simp at h1
 | .slcl a lo k,x,_,he=>by
   simp only[eval,Z8m]at he;obtain⟨y,_,z,_,h1⟩:=he;unfold qh at h1;split at h1
   ·split at h1
    ·simp only[Z8l]at h1;subst h1;rfl
    ·simp at h1
   ·simp at h1
 | .app a b k,x,_,he=>by
   simp only[eval,Z8m]at he;obtain⟨y,_,z,_,h1⟩:=he;unfold appV at h1;split at h1
   ·split at h1
    ·simp only[Z8l]at h1;subst h1;rfl
    ·simp at h1
   ·simp at h1
 | .upd a i o b,x,_,he=>by
   simp only[eval,Z8m]at he;obtain⟨y,_,z,_,u,_,h1⟩:=he;unfold updV at h1;split at h1
   ·split at h1
    ·rw[Z8m]at h1;obtain⟨q,_,h1⟩:=h1;split at h1
     ·simp only[Z8l]at h1;subst h1;rfl
     ·simp at h1
    ·simp at h1
   ·simp at h1
 | .mk z n,x,_,he=>by
   simp only[eval,Z8m]at he;obtain⟨y,_,h1⟩:=he;unfold mkV at h1;split at h1
   ·split at h1
    ·simp only[Z8l]at h1;subst h1;rfl
    ·simp at h1
   ·simp at h1
 | .lit l,x,_,he=>by
   simp only[eval,Z8p]at he;obtain⟨y,_,h1⟩:=he;subst h1;rfl
 | .one a,x,_,he=>by
   simp only[eval,Z8m]at he;obtain⟨y,_,h1⟩:=he;exact Lb h1
 | .ite d a b,x,h,he=>by
   simp only[E.sure,Z8u]at h;simp only[eval,Z8m]at he;obtain⟨y,_,h1⟩:=he;unfold iteV at h1;split at h1
   ·exact Um a x h.1 h1
   ·exact Um b x h.2 h1
   ·simp at h1
 | .s t,x,h,he=>by simp[E.sure]at h
 | .mm t i n,x,h,he=>by simp[E.sure]at h
 | .ext a i,x,h,he=>by simp[E.sure]at h
 | .idx a i k,x,h,he=>by simp[E.sure]at h
 | .flds a o n,x,h,he=>by simp[E.sure]at h
 | .ai a i n k ag,x,h,he=>by simp[E.sure]at h
 | .aput a i n k b,x,h,he=>by simp[E.sure]at h
 | .ag l,x,h,he=>by simp[E.sure]at h
 | .star a,x,h,he=>by simp[E.sure]at h
 | .isag a,x,h,he=>by simp[E.sure]at h
 | .sz a n,x,h,he=>by simp[E.sure]at h
 | .fl a,x,h,he=>by simp[E.sure]at h
 | .fls a,x,h,he=>by simp[E.sure]at h
end
end Vm
namespace Vm
open Go
open Go.RowKit (Below)
section
variable {c:Ctx} {B:Nat} {G:Nat→Prop} {s:St} {a:Act} {w:World} {h:GH} {g:Gam} {C:Zg}
theorem JK{e:E}{x:V}(hx:eval s (oneE e)=some x):eval s e=some x∧x.one=true:=by
 unfold oneE at hx;split at hx
 ·rename_i hs;exact⟨hx,Um e x hs hx⟩
 ·simp only[eval,Z8m]at hx;obtain⟨y,hy,h1⟩:=hx;obtain⟨rfl,h2⟩:=X8 h1;exact⟨hy,h2⟩
theorem zZ{x z:V}{n:Nat}(hz:szV x n=some z):x=z∧z.cells.length=n∧ ∀l,z≠ .tup l:=by
 unfold szV at hz;split at hz
 ·rename_i hn;cases x<;>simp only[Z8l]at hz<;>first| (subst hz;exact⟨rfl,hn,by simp⟩) | (simp at hz;done)
 ·simp at hz
theorem Rb{x:V}(h:x.one=true): ∀l,x≠ .tup l:=by
 intro l hl;subst hl;simp[V.one]at h
theorem Yv{x:V}(h:x.one=true):x.cells= [x]:=by
 cases x<;>first|rfl|simp[V.one]at h
theorem Z1b{e:E}{n:Nat}{x:V}(hx:eval s (szE e n)=some x):eval s e=some x∧x.cells.length=n∧ ∀l,x≠ .tup l:=by
 unfold szE at hx;split at hx
 ·rename_i hs;refine⟨hx,?_⟩;cases e<;>simp only[E.sized,Z99,Z8u]at hs<;>first| (cases hs;done) |skip
  ·subst hs;simp only[eval]at hx;split at hx
   ·split at hx
    ·simp only[Z8l]at hx;subst hx;exact⟨by simp[V.cells];omega,by simp⟩
    ·simp at hx
   ·simp at hx
  ·subst hs;simp only[eval,Z8m]at hx;obtain⟨y,_,hy⟩:=hx;obtain⟨h1,rfl⟩:=Vl hy;exact⟨by simp[V.cells];omega,by simp⟩
  ·rename_i l;obtain⟨hl,hall⟩:=hs;simp only[eval,Z8p]at hx;obtain⟨xs,hxs,rfl⟩:=hx;obtain⟨h1,h2⟩:=Yj hxs
   have hone: ∀y∈xs,y.one=true:=by
    intro y hy;obtain⟨i,hi⟩:=Z8O hy;have hlt:i<l.length:=by have:=(Z8o.1 hi).1;omega
    obtain⟨z,hz,hz'⟩:=h2 i l[i] (Z8n hlt);rw[hi]at hz;cases hz;exact Um _ _ (Z8A.1 hall _ (Z8M hlt)) hz'
   exact⟨by simp only[agV,V.cells,WL hone];omega,by simp[agV]⟩
  ·subst hs;simp only[eval,Z8m]at hx;obtain⟨y,_,hy⟩:=hx;exact(zZ hy).2
 ·simp only[eval,Z8m]at hx;obtain⟨y,hy,h1⟩:=hx;obtain⟨rfl,h2⟩:=zZ h1;exact⟨hy,h2⟩
theorem TJ{ag:Bool}{n:Nat}{e:E}{x:V}(hx:eval s (tyE ag n e)=some x):eval s e=some x∧(∀l,x≠ .tup l)∧(ag=true→x.cells.length=n)∧(ag=false→x.one=true):=by
 unfold tyE at hx;cases ag with
 |true=>
  obtain⟨h1,h2,h3⟩:=Z1b (by simpa using hx);exact⟨h1,h3,fun _=>h2,by simp⟩
 |false=>
  obtain⟨h1,h2⟩:=JK (by simpa using hx);exact⟨h1,Rb h2,by simp,fun _=>h2⟩
theorem QA{P:Program}{T:TypeId}(hT:(P.underlying T).isSome=true)(hsz:P.cellsOf T≠0){vs:Array Value}{o:Nat}(hlt:o+P.cellsOf T≤vs.size):
  (part T vs o).run P w= .ok (if Zn P T then .agg (vs.extract o (o+P.cellsOf T))else vs.getD o undef) w:=by
 obtain⟨i,hi,hs⟩:=WF hsz;have hok:okT P T=true:=by simp[okT,hT,hi]
 obtain⟨d,i',hd,hi',hs',hagg⟩:=Wy hok;have hlt':o<vs.size:=by omega
 cases hag:Zn P T with
 |true=>simp[part,hagg,hag,Yr hi',hs']
 |false=>simp[part,hagg,hag,hlt',Z8q]
theorem Rd.part{G':Nat→Prop}{cs:List V}{vs:Array Value}(h1:vs.size=cs.length)(h2: ∀c∈cs,c.one=true)(h3: ∀i c,cs[i]? =some c→Rd w G' c (vs.getD i undef)){o n:Nat}(hle:o+n≤cs.length):
  Rd w G' (.agg ((cs.drop o).take n)) (.agg (vs.extract o (o+n))):=by
 refine .agg _ _ (by simp;omega) (fun y hy=>h2 y (Z9Y (Z9g hy))) fun i y hi=> ?_;rw[Z8T]at hi;split at hi
 ·rename_i hin;rw[Z8N]at hi;have:=h3 (o+i) y hi
  have hg:(vs.extract o (o+n)).getD i undef=vs.getD (o+i) undef:=by
   have hb:i<o+n-o:=by omega
   simp only[Z8q,ZbU];rw[if_pos (by omega)]
  rw[hg];exact this
 ·simp at hi
theorem RT{x z:V}(hz:KP x=some z): ∃cs,x= .agg cs∧z= .agg cs:=by
 unfold KP at hz;split at hz
 ·simp only[Z8l]at hz;exact⟨_,rfl,hz.symm⟩
 ·simp at hz
theorem js(hr:RelG c B G s a w h g)(hC:holds s (ixC c C)){T:TypeId}{x:Operand}{f:Nat}{k:TK}{es:List E}(hp:Z3k c g C T x f=some (k,es))(hes: ∀e∈es,∃z,eval s e=some z)(d:Nat):
  Has c B s w h (fun p=>a.tmps[p]?) d k (Instr.field T (a.eval x) f):=by
 unfold Z3k at hp;simp only[Z8m]at hp;obtain⟨y,hf,hp⟩:=hp;split at hp
 ·simp at hp
 ·rename_i hn;simp only[Z8p,Z8w]at hp;obtain⟨⟨e,sh⟩,he,rfl,rfl⟩:=hp;obtain⟨fs,fd,hu,hfd,hok,rfl⟩:=Tg hf;simp only at hn;obtain⟨u,hu',hrd⟩:=YR hr hC he;obtain⟨z,hz⟩:=hes _ (List.Mem.head _);simp only at hz;generalize a.eval x=v at hrd;obtain⟨i,hi,hs⟩:=WF hn;have hsome:(c.P.underlying fd.type).isSome=true:=by simp only[okT,Z8u]at hok;exact hok.1
  cases hag:Zn c.P fd.type with
  |true=>
   rw[hag]at hz;simp only[Z9c,eval,hu',Z8y,Z8m]at hz;obtain⟨q,hq,hz⟩:=hz;obtain⟨cs,rfl,rfl⟩:=RT hq;obtain⟨hle,rfl⟩:=Vl hz;cases hrd with
   |agg _ vs h1 h2 h3=>
    refine⟨.agg (vs.extract fd.offset (fd.offset+c.P.cellsOf fd.type)),?_,.agg ((cs.drop fd.offset).take (c.P.cellsOf fd.type)),?_,Rd.part h1 h2 h3 hle⟩
    ·have:=QA (w:=w) (P:=c.P) hsome hn (vs:=vs) (o:=fd.offset) (by rw[h1];exact hle);rw[hag]at this;simp[Instr.field,Z8X hu,hfd,asAgg,this]
    ·simp only[hag,Z9c,eval,hu',Z8y,KP,SJ];rw[if_pos hle];rfl
  |false=>
   rw[hag]at hz;simp only[Z8U,Z9f,eval,hu',Z8y,Z8m]at hz;obtain⟨q,hq,hz⟩:=hz;obtain⟨cs,rfl,rfl⟩:=RT hq;have hz':=SZ hz;cases hrd with
   |agg _ vs h1 h2 h3=>
    have hlt:fd.offset<vs.size:=by rw[h1];exact(Z8o.1 hz').1
    refine⟨vs.getD fd.offset undef,?_,z,?_,h3 _ _ hz'⟩
    ·obtain⟨d',i',hd',hi',hs',hagg⟩:=Wy (P:=c.P) (T:=fd.type) (by simp[okT,hsome,hi]);simp[Instr.field,Z8X hu,hfd,asAgg,part,hagg,hag,hlt,Z8q]
    ·simp only[hag,Z8U,Z9f,eval,hu',Z8y,KP];exact hz
theorem La(hr:RelG c B G s a w h g)(hC:holds s (ixC c C)){T:TypeId}{x i:Operand}{k:TK}{es:List E}(hp:L9 c g C T x i=some (k,es))(hes: ∀e∈es,∃z,eval s e=some z)(d:Nat):
  Has c B s w h (fun p=>a.tmps[p]?) d k (Instr.index T (a.eval x) (a.eval i)):=by
 unfold L9 at hp;split at hp
 ·rename_i n el hT;have hT':=Z3c hT;split at hp
  ·simp at hp
  ·rename_i hokel;simp only[ZaE,Bool.not_eq_false']at hokel;simp only[Z8m,Z8p,Z8w]at hp;obtain⟨⟨e,sh⟩,he,⟨j,sj⟩,hj,rfl,rfl⟩:=hp;obtain⟨u,hu,hrd⟩:=YR hr hC he;obtain⟨y,hy,hyr⟩:=YR hr hC hj;obtain⟨z,hz⟩:=hes _ (List.Mem.head _);have hz0:=hz;simp only[eval,hu,hy,Z8y]at hz;obtain⟨cs,ki,q,rfl,rfl,hq,hlen,hzz⟩:=TC hz;rw[hyr.int_eq];generalize a.eval x=v at hrd;obtain⟨dd,info,hd,hi,hs,hagg⟩:=Wy hokel
   have hle:q*c.P.cellsOf el+c.P.cellsOf el≤n*c.P.cellsOf el:=by
    rw[←Z9M];exact Z93 _ hq
   cases hrd with
   |agg _ vs h1 h2 h3=>
    cases hag:Zn c.P el with
    |false=>
     rw[hag]at hzz hz0;simp only[Z8U,Z9f]at hzz;have hlt:q*c.P.cellsOf el<vs.size:=by rw[h1];exact(Z8o.1 hzz).1
     rw[hs]at hlt hzz;refine⟨vs.getD (q*info.size) undef,?_,z,by rw[hag]at*;exact hz0,h3 _ _ hzz⟩;simp[Instr.index,asIntOf,Z8X hT',hq,Yr hi,part,hagg,hag,hlt,Z8q]
    |true=>
     rw[hag]at hzz hz0;simp only[Z9c,Z8l]at hzz;subst hzz;refine⟨.agg (vs.extract (q*c.P.cellsOf el) (q*c.P.cellsOf el+c.P.cellsOf el)),?_,_,by rw[hag]at*;exact hz0,Rd.part h1 h2 h3 (by omega)⟩;rw[hs];simp[Instr.index,asIntOf,Z8X hT',hq,Yr hi,part,hagg,hag]
 ·simp at hp
theorem Sl{k:Nat}{l:List V}(hk:Y7 k l=true): ∀x∈l,x.cells.length=k:=fun x hx=>by
 have:=Z8A.1 hk x hx;simpa using this
theorem Z3m{P:Program}{T el:TypeId}(h:P.underlying T=some (.slice el)):P.elem T=el:=by
 simp[Program.elem,h]
theorem Rd.sliced{G':Nat→Prop}{l:List V}{o:Option Addr}{len cap:Nat}(hx:Rd w G' (.sl l) (.slice o len cap)){k p q:Nat}(hk:Y7 k l=true)(hpq:p≤q)(hq:q≤l.length):
  q≤cap∧len=l.length∧Rd w G' (.sl ((l.take q).drop p)) (sliced o p q cap k):=by
 cases hx with
 |nil _ _ hc=>
  simp only[Z9L,Nat.le_zero]at hq;subst hq;have hp0:p=0:=by omega
  subst hp0;exact⟨Z9n _,rfl,by simp only[Go.sliced,List.take_nil,List.drop_nil,Nat.sub_zero];exact .nil _ _ hc⟩
 |sl _ b o _ kk vs h1 h2 h3 h4 h5 h6=>
  refine⟨by omega,rfl,?_⟩;unfold Go.sliced;by_cases hpq':p=q
  ·subst hpq'
   have:(l.take p).drop p= []:=by
    rw[List.drop_eq_nil_of_le];simp;omega
   rw[this,Za7];exact .nil _ _ (by omega)
  ·have hne:cap≠p:=by omega
   have hl0: ∃x,l[p]? =some x:=⟨_,Z8n (by omega)⟩;obtain⟨x,hx⟩:=hl0;have hkk:kk=k:=by rw[←(h4 x (Z8x hx)).1,Sl hk x (Z8x hx)]
   subst hkk;have hlen:((l.take q).drop p).length=q-p:=by simp;omega
   simp only[if_neg hne,Z9w,Za0];rw[←hlen]
   have hflat:Vm.flat ((l.take q).drop p)=((Vm.flat l).take (q*kk)).drop (p*kk):=by
    rw[Z0J (k:=kk) (fun x hx=>h4 x (Z9g hx)),Z0u h4]
   refine .sl _ b (o+p*kk) (cap-p) kk (fun i=>vs (p*kk+i)) (by omega) (by omega) h3 (fun x hx=>h4 x (Z9g (Z9Y hx))) (fun i hi=> ?_) fun i c hi=> ?_
   ·rw[Z9i];refine h5 _ ?_;have:(q-p)*kk+p*kk≤l.length*kk:=by rw[←Nat.add_mul];exact Z93 _ (by omega)
    rw[hlen]at hi;omega
   ·rw[hflat,Z8N,Z8T]at hi;split at hi
    ·exact h6 _ _ hi
    ·simp at hi
theorem V7{T:TypeId}(hT:c.P.underlying T=some (.slice (c.P.elem T))){v:Value}{lo hi:Option Value}{tm:Nat→Option Value}{d:Nat}{k:TK}:
  Has c B s w h tm d k (Instr.sliceAt T v lo hi none)=Has c B s w h tm d k (Instr.slice T v lo hi none):=by
 unfold Has;rw[run_sliceAt_slice w T v lo hi none hT]
theorem Vx{P:Program}{T:TypeId}(hT:okT P T=true)(w:World):(Go.sizeOf T).run P w= .ok (P.cellsOf T) w:=by
 obtain⟨d,i,hd,hi,hs,_⟩:=Wy hT;rw[Yr hi,hs]
theorem jb{k:Nat}{x y z u:V}(hz:slcV k x y z=some u): ∃l ka kb p q,x= .sl l∧y= .int ka (p:Nat)∧z= .int kb (q:Nat)∧p≤q∧q≤l.length∧Y7 k l=true∧u= .sl ((l.take q).drop p):=by
 unfold slcV at hz;split at hz
 ·rename_i l ka p kb q;split at hz
  ·rename_i hc;obtain⟨h0,h1,h2,h3⟩:=hc;obtain⟨p,rfl⟩:=Z8H h0;obtain⟨q,rfl⟩:=Z8H (Int.le_trans h0 h1);simp only[Z8l,Z8B]at hz;exact⟨l,ka,kb,p,q,rfl,rfl,rfl,by omega,by omega,h3,hz.symm⟩
  ·simp at hz
 ·simp at hz
theorem qG{k:Nat}{x y u:V}(hz:qh k x y=some u): ∃l ka p,x= .sl l∧y= .int ka (p:Nat)∧p≤l.length∧Y7 k l=true∧u= .sl (l.drop p):=by
 unfold qh at hz;split at hz
 ·rename_i l ka p;split at hz
  ·rename_i hc;obtain⟨h0,h1,h3⟩:=hc;obtain⟨p,rfl⟩:=Z8H h0;simp only[Z8l,Z8B]at hz;exact⟨l,ka,p,rfl,rfl,by omega,h3,hz.symm⟩
  ·simp at hz
 ·simp at hz
theorem Rd.sl_eq{G':Nat→Prop}{l:List V}{v:Value}(hx:Rd w G' (.sl l) v): ∃o len cap,v= .slice o len cap:=by
 cases hx<;>exact⟨_,_,_,rfl⟩
theorem KO(hr:RelG c B G s a w h g)(hC:holds s (ixC c C)){T:TypeId}{x:Operand}{lo hi:Option Operand}{k:TK}{es:List E}(hp:L1 c g C T x lo hi=some (k,es))(hes: ∀e∈es,∃z,eval s e=some z)(d:Nat):
  Has c B s w h (fun p=>a.tmps[p]?) d k (Instr.sliceAt T (a.eval x) (lo.map a.eval) (hi.map a.eval) none):=by
 unfold L1 at hp;split at hp
 ·rename_i el hT;have hT':=qH hT;have hel:=Z3m hT';have hT2:c.P.underlying T=some (.slice (c.P.elem T)):=by rw[hel];exact hT'
  split at hp
  ·rename_i hok;simp only[Z8m,Z8p,Z8w]at hp;obtain⟨⟨e,sh⟩,he,l,hl,e',he',rfl,rfl⟩:=hp;obtain⟨u,hu,hrd⟩:=YR hr hC he;obtain⟨z,hz⟩:=hes _ (List.Mem.head _);rw[V7 hT2];generalize a.eval x=v at hrd;cases hi with
   |some hh=>
    simp only[opHi,Z8p]at he';obtain⟨⟨f,sf⟩,hf,rfl⟩:=he';obtain⟨y2,hy2,hr2⟩:=YR hr hC hf;have hz0:=hz;simp only[eval,hu,hy2,Z8y,Z8m]at hz;obtain⟨y1,hy1,hz⟩:=hz;obtain⟨ll,ka,kb,p,q,rfl,rfl,rfl,hpq,hq,hsz,rfl⟩:=jb hz;obtain⟨o,len,cap,rfl⟩:=hrd.sl_eq;obtain⟨hqc,hlen,hres⟩:=hrd.sliced hsz hpq hq;refine⟨_,?_,_,hz0,hres⟩;cases lo with
    |some ll'=>
     simp only[opLo,Z8p]at hl;obtain⟨⟨f1,sf1⟩,hf1,rfl⟩:=hl;obtain⟨y3,hy3,hr3⟩:=YR hr hC hf1;rw[hy1]at hy3;cases hy3;simp only[Z9w];rw[hr2.int_eq,hr3.int_eq];have:=run_slice_lh (P:=c.P) w T o len cap hT2 ka kb p q (by omega) (by omega) (by omega);rw[this,hel,Vx hok];simp[Result.andThen]
    |none=>
     simp only[opLo,Z8l]at hl;subst hl;simp only[eval,Z8l,V.int.injEq]at hy1;have hp0:p=0:=by omega
     subst hp0;simp only[Z9w,Zbo];rw[hr2.int_eq];have:=run_slice_h (P:=c.P) w T o len cap hT2 kb q (by omega) (by omega);rw[this,hel,Vx hok];simp[Result.andThen]
   |none=>
    simp only[opHi,Z8l]at he';subst he';have hz0:=hz;simp only[eval,hu,Z8y,Z8m]at hz;obtain⟨y1,hy1,hz⟩:=hz;obtain⟨ll,ka,p,rfl,rfl,hq,hsz,rfl⟩:=qG hz;obtain⟨o,len,cap,rfl⟩:=hrd.sl_eq;obtain⟨hqc,hlen,hres⟩:=hrd.sliced hsz hq (Z8v _);rw[Za1]at hres;refine⟨_,?_,_,hz0,hres⟩;cases lo with
    |some ll'=>
     simp only[opLo,Z8p]at hl;obtain⟨⟨f1,sf1⟩,hf1,rfl⟩:=hl;obtain⟨y3,hy3,hr3⟩:=YR hr hC hf1;rw[hy1]at hy3;cases hy3;simp only[Z9w,Zbo];rw[hr3.int_eq];have:=run_slice_l (P:=c.P) w T o len cap hT2 ka p (by omega) (by omega);rw[this,hel,Vx hok];simp[Result.andThen,hlen]
    |none=>
     simp only[opLo,Z8l]at hl;subst hl;simp only[eval,Z8l,V.int.injEq]at hy1;have hp0:p=0:=by omega
     subst hp0;simp only[Zbo];have:=run_slice_all (P:=c.P) w T o len cap hT2;rw[this,hel,Vx hok];simp[Result.andThen,hlen]
  ·simp at hp
 ·simp at hp
end
end Vm
namespace Vm
open Go
open Go.RowKit (Below)
def GH.give(h:GH)(d i n:Nat):GH:= {F:=h.F,bl:=fun t j=>if t=d then(if j=i then some n else none)else h.bl t j,K:=h.K}
def GH.froz(h:GH)(n:Nat):GH:= {F:=fun b=>h.F b∨b=n,bl:=h.bl,K:=h.K}
section
variable {c:Ctx} {B:Nat} {G:Nat→Prop} {s:St} {a:Act} {w w':World} {h:GH} {g:Gam} {C:Zg}
theorem YT(hok:Ok B G w h)(hg:w.grownBy w' none):Below B w w':=(Z8E B w).grown hg hok.base fun k hk=>by cases hk
theorem Un(hok:Ok B G w h)(hg:w.grownBy w' none)(d i:Nat){n:Nat}(hn:w.heap.size≤n)(hn':n<w'.heap.size):
  Ok B G w' (h.give d i n)∧Step B [d] [d] [] w w' h (h.give d i n):=by
 have hsz:=hg.size
 refine⟨⟨Z8Y hok.base hsz,fun b hb=>Z8z (hok.f_lt b hb) hsz,hok.f_or,hok.g_F,fun t j b hb=> ?_,fun t j u q b hb hb'=> ?_,fun b hb=>Z8z (hok.k_lt b hb) hsz,fun t j b hb hK=> ?_,hok.k_F⟩,
  YT hok hg,fun b hb _=>hg.block b hb (by simp),fun b hb=>hb,fun t ht _=> ?_,fun t ht=> ?_,fun _ _ _ _ hm=>(by simp at hm),rfl⟩
 ·simp only[GH.give]at hb;split at hb
  ·split at hb
   ·simp only[Z8l]at hb;subst hb;exact⟨Z8Y hok.base hn,hn',fun hF=>by have:=hok.f_lt _ hF;omega⟩
   ·cases hb
  ·obtain⟨h1,h2,h3⟩:=hok.b_lt t j b hb;exact⟨h1,Z8z h2 hsz,h3⟩
 ·simp only[GH.give]at hb hb';split at hb<;>split at hb'
  ·rename_i e1 e2;split at hb<;>first| (cases hb;done) |skip
   split at hb'<;>first| (cases hb';done) |skip
   rename_i e3 e4;exact⟨e1.trans e2.symm,e3.trans e4.symm⟩
  ·split at hb<;>first| (cases hb;done) |skip
   simp only[Z8l]at hb;have:=(hok.b_lt u q b hb').2.1;omega
  ·split at hb'<;>first| (cases hb';done) |skip
   simp only[Z8l]at hb';have:=(hok.b_lt t j b hb).2.1;omega
  ·exact hok.inj t j u q b hb hb'
 ·simp only[GH.give]at hb;split at hb
  ·split at hb
   ·simp only[Z8l]at hb;subst hb;have:=hok.k_lt _ hK;omega
   ·cases hb
  ·exact hok.k_bl t j b hb hK
 ·have:t≠d:=by simpa using ht
  funext j;simp[GH.give,this]
 ·have:t≠d:=by simpa using ht
  simp[GH.give,this]
theorem j4(hok:Ok B G w h)(hg:w.grownBy w' none)(ps rb:List Nat){n:Nat}(hn:w.heap.size≤n)(hn':n<w'.heap.size):
  Ok B G w' (h.froz n)∧Step B ps rb [] w w' h (h.froz n):=by
 have hsz:=hg.size
 refine⟨⟨Z8Y hok.base hsz,fun b hb=> ?_,fun b hb=> ?_,fun b hb=> .inl (hok.g_F b hb),fun t j b hb=> ?_,hok.inj,fun b hb=>Z8z (hok.k_lt b hb) hsz,hok.k_bl,fun b hb=> ?_⟩,
  YT hok hg,fun b hb _=>hg.block b hb (by simp),fun b hb=> .inl hb,fun t ht _=>rfl,fun t ht=>rfl,fun _ _ _ _ hm=>(by simp at hm),rfl⟩
 ·rcases hb with hb|rfl
  ·exact Z8z (hok.f_lt b hb) hsz
  ·exact hn'
 ·rcases hb with hb|rfl
  ·exact hok.f_or b hb
  ·exact .inr (Z8Y hok.base hn)
 ·obtain⟨h1,h2,h3⟩:=hok.b_lt t j b hb;refine⟨h1,Z8z h2 hsz,fun hF=> ?_⟩;rcases hF with hF|rfl
  ·exact h3 hF
  ·omega
 ·rcases hb with hb|rfl
  ·exact hok.k_F b hb
  ·exact .inr fun hK=>by have:=hok.k_lt _ hK;omega
theorem T3(hok:Ok B G w h)(hg:w.grownBy w' none){G':Nat→Prop}(hlt: ∀b,G' b→b<w.heap.size):Same G' w w':=fun b hb=>hg.block b (hlt b hb) (by simp)
theorem Z4W(hok:Ok B G w h)(sh:List Nat): ∀b,h.ext sh b→b<w.heap.size:=by
 intro b hb;rcases hb with hb| ⟨p,_,i,hi⟩
 ·exact hok.f_lt b hb
 ·exact(hok.b_lt p (i+1) b hi).2.1
theorem SP{α β:Type}{f:α→Option β}: ∀ {l:List α} {r:List β},l.mapM f=some r→r.length=l.length∧ ∀(i:Nat) (v:α),l[i]? =some v→ ∃x,r[i]? =some x∧f v=some x
 | [],r,hm=>by
   simp at hm;subst hm;exact⟨rfl,fun i v hi=>by simp at hi⟩
 |y::l,r,hm=>by
  rw[ZbF]at hm;simp only[Option.bind_eq_bind,Z8m,Option.pure_def,Z8l]at hm;obtain⟨x,hx,xs,hxs,rfl⟩:=hm;obtain⟨h1,h2⟩:=SP hxs;refine⟨by simp[h1],fun i v hi=> ?_⟩;cases i with
  |zero=>simp at hi;subst hi;exact⟨x,by simp,hx⟩
  |succ i=>simpa using h2 i v (by simpa using hi)
theorem Wf{P:Program}{T:TypeId}{zs:List V}(hz:zeroCells P T=some zs): ∃i z,P.info? T=some i∧i.zero=some z∧z.cells.size=zs.length∧ ∀(j:Nat) (v:Value),z.cells[j]? =some v→ ∃x,zs[j]? =some x∧VG v=some x:=by
 unfold zeroCells at hz;simp only[Z8m]at hz;obtain⟨z,⟨i,hi,hz0⟩,hm⟩:=hz;obtain⟨h1,h2⟩:=SP hm;exact⟨i,z,hi,hz0,by simpa using h1.symm,fun j v hj=>h2 j v (by simpa using hj)⟩
theorem Xl{P:Program}{T:TypeId}{i:TypeInfo}{z:Value}(hi:P.info? T=some i)(hz:i.zero=some z)(w:World):(zeroValue T).run P w= .ok z w:=by
 simp[zeroValue,typeInfo,hi,hz]
theorem Vo{P:Program}{T:TypeId}(v:Value)(w:World):(newVar T v).run P w= .ok ⟨w.heap.size,0,none⟩ (w.alloc (.cells v.cells T)):=by
 simp[newVar,newRow]
def Z5a(x:V):CK:=match x with| .sl _=>CK.nil|_=> .fz
theorem Z17{P:Program}{o:Option Nat}{v:Value}{x:V}(hv:VG v=some x):RelC P B s w h o (Z5a x) (.c x) v:=by
 unfold VG at hv
 split at hv<;>first
  | (simp only[Z8l]at hv;subst hv;first|exact⟨_,rfl,rfl,.int _ _⟩ |exact⟨_,rfl,rfl,.bool _⟩ |exact⟨_,rfl,rfl,.str _⟩ |exact⟨rfl,rfl⟩ |exact⟨_,rfl,rfl,.nomp⟩ |exact⟨_,rfl,rfl,.nul0⟩ |exact⟨_,rfl,rfl,.nul1⟩)
  | (split at hv<;>first
    | (rename_i hs
       simp only[Z8l]at hv;subst hv;rw[Z9k hs.1,Z9k hs.2];exact⟨_,rfl,rfl,.fn _⟩)
    |simp at hv)
  |simp at hv
theorem LC(hok:Ok B G w h){T:TypeId}{k:TK}{es:List E}(hp:L4 c T=some (k,es))(tm:Nat→Option Value)(d:Nat):
  ∃v w',(Instr.alloc T true (.tuple #[])).run c.P w= .ok v w'∧PRes c B G s w h tm d k v w':=by
 unfold L4 at hp;simp only[Z8m]at hp;obtain⟨zs,hz,hp⟩:=hp;split at hp
 ·simp at hp
 ·simp only[Z8l,Z8w]at hp;obtain⟨rfl,rfl⟩:=hp;obtain⟨i,z,hi,hz0,hsz,hcells⟩:=Wf hz;have hg:=Z9K w (.cells z.cells T) none;obtain⟨hok',hst⟩:=Un hok hg d 0 (n:=w.heap.size) (Z8v _) (by simp);refine⟨.pointer (some ⟨w.heap.size,0,none⟩),_,?_,_,hst,hok',?_⟩
  ·simp[Instr.alloc,Xl hi hz0,Vo]
  ·refine⟨w.heap.size,z.cells,T,by simp[GH.give],rfl,Z8C w _,by simpa using hsz,fun j ck hj=> ?_⟩;simp only[Z8D,Z8p]at hj;obtain⟨x,hx,rfl⟩:=hj;have hlt:j<z.cells.size:=by rw[hsz];exact(Z8o.1 hx).1
   obtain⟨x',hx',hc⟩:=hcells j z.cells[j] (Z98 hlt);rw[hx]at hx';cases hx';have:z.cells.getD j undef=z.cells[j]:=by simp[hlt]
   rw[this];exact Z17 hc
theorem jf(hr:RelG c B G s a w h g)(hC:holds s (ixC c C)){T:TypeId}{x:Operand}{k:TK}{es:List E}(hp:Z3H c g C T x=some (k,es))(hes: ∀e∈es,∃z,eval s e=some z)(tm:Nat→Option Value)(d:Nat):
  ∃v w',(Instr.box T (a.eval x)).run c.P w= .ok v w'∧PRes c B G s w h tm d k v w':=by
 unfold Z3H at hp;split at hp
 ·rename_i e0 hk;split at hp
  ·rename_i hokT;obtain⟨y,hy,hrd⟩:=YY hr hC hk;have hg:=Z9K w (.cells (a.eval x).cells T) none;obtain⟨hok',hst⟩:=Un hr.ok hg d 0 (n:=w.heap.size) (Z8v _) (by simp);have hF:Same h.F w (w.alloc (.cells (a.eval x).cells T)):=T3 hr.ok hg hr.ok.f_lt;refine⟨.pointer (some ⟨w.heap.size,0,none⟩),_,by simp[Instr.box,Vo],_,hst,hok',?_⟩;generalize a.eval x=v at*;split at hp
   ·rename_i hag;simp only[hag,Z8l,Z8w]at hp;obtain⟨rfl,rfl⟩:=hp;obtain⟨z,hz⟩:=hes _ (List.Mem.head _);obtain⟨h1,h2,h3,_⟩:=TJ hz;rw[hy]at h1;cases h1;obtain⟨hs1,hs2,hs3⟩:=hrd.cells h2;refine⟨w.heap.size,v.cells,T,by simp[GH.give],rfl,Z8C w _,by rw[hs1,h3 rfl];simp,fun j ck hj=> ?_⟩;simp only[Z8D,Z8p]at hj;obtain⟨j',hj',rfl⟩:=hj;have hlt:j<c.P.cellsOf T:=by simpa using(Z8o.1 hj').1
    have hj2:j'=j:=by simpa[hlt]using hj'.symm
    subst hj2;have hlt2:j'<y.cells.length:=by rw[h3 rfl];exact hlt
    have hget:y.cells[j']? =some y.cells[j']:=Z8n hlt2;refine⟨y.cells[j'],?_,hs2 _ (Z8M _),(hs3 j' _ hget).F.keep hF fun b hb=>hb⟩;have hpc:y.pc=y.cells:=by cases y<;>first|rfl|exact absurd rfl (h2 _)
    simp only[eval,hz,Z8y,fldV,hpc,hget];unfold oneV;rw[if_pos (hs2 _ (Z8M _))]
   ·rename_i hag;have hag':Zn c.P T=false:=by simpa using hag
    simp only[hag',Z8l,Z8w]at hp;obtain⟨rfl,rfl⟩:=hp;obtain⟨z,hz⟩:=hes _ (List.Mem.head _);obtain⟨h1,h2,_,h3⟩:=TJ hz;rw[hy]at h1;cases h1;obtain⟨hs1,hs2,hs3⟩:=hrd.cells h2;have hyc:=Yv (h3 rfl);rw[hyc]at hs1 hs3;refine⟨w.heap.size,v.cells,T,by simp[GH.give],rfl,Z8C w _,by rw[hs1];rfl,fun j ck hj=> ?_⟩;cases j with
    |zero=>
     simp at hj;subst hj;exact⟨y,hz,h3 rfl,(hs3 0 y rfl).F.keep hF fun b hb=>hb⟩
    |succ j=>simp at hj
  ·simp at hp
 ·simp at hp
theorem S1(off:Nat): ∀(l:List (Value×Nat)) (cs:Array Value) (m:Nat),(∀(i:Nat) (q:Value×Nat),l[i]? =some q→q.2=m+i)→off+m+l.length≤cs.size→
  (l.foldl (fun cs (c,j)=>cs.setIfInBounds (off+j) c) cs).size=cs.size∧
  (∀x,x<off+m∨off+m+l.length≤x→(l.foldl (fun cs (c,j)=>cs.setIfInBounds (off+j) c) cs)[x]? =cs[x]?)∧
  ∀(i:Nat) (q:Value×Nat),l[i]? =some q→(l.foldl (fun cs (c,j)=>cs.setIfInBounds (off+j) c) cs)[off+m+i]? =some q.1
 | [],cs,m,_,_=>⟨rfl,fun _ _=>rfl,fun i q hi=>by simp at hi⟩
 | (v,j)::l,cs,m,hidx,hle=>by
   have hj:j=m:=hidx 0 (v,j) rfl;subst hj
   have hl': ∀(i:Nat) (q:Value×Nat),l[i]? =some q→q.2=(j+1)+i:=fun i q hi=>by
    have:=hidx (i+1) q (by simpa using hi);omega
   simp only[Z9o]at hle;obtain⟨h1,h2,h3⟩:=S1 off l (cs.setIfInBounds (off+j) v) (j+1) hl' (by simp;omega);simp only[Zaw];refine⟨by rw[h1];simp,fun x hx=> ?_,fun i q hi=> ?_⟩
   ·rw[h2 x (by simp only[Z9o]at hx;omega),Zax (by simp only[Z9o]at hx;omega)]
   ·cases i with
    |zero=>
     simp at hi;subst hi;rw[Za6,h2 (off+j) (by omega)];have:off+j<cs.size:=by omega
     simp[this]
    |succ i=>
     have:=h3 i q (by simpa using hi);rw[show off+j+(i+1)=off+(j+1)+i from by omega];exact this
theorem JL(off:Nat)(v:Value)(cs:Array Value)(hle:off+v.cells.size≤cs.size):
  (v.cells.zipIdx.foldl (fun cs (c,j)=>cs.setIfInBounds (off+j) c) cs).size=cs.size∧
  (∀x,x<off∨off+v.cells.size≤x→(v.cells.zipIdx.foldl (fun cs (c,j)=>cs.setIfInBounds (off+j) c) cs)[x]? =cs[x]?)∧
  ∀i,i<v.cells.size→(v.cells.zipIdx.foldl (fun cs (c,j)=>cs.setIfInBounds (off+j) c) cs)[off+i]? =v.cells[i]? :=by
 have hz: ∀(i:Nat) (q:Value×Nat),v.cells.zipIdx.toList[i]? =some q→v.cells[i]? =some q.1∧q.2=0+i:=by
  intro i q hi;rw[Z9p,ZbW,Z8p]at hi;obtain⟨u,hu,rfl⟩:=hi;exact⟨hu,by omega⟩
 have hlen:v.cells.zipIdx.toList.length=v.cells.size:=by simp
 rw[←Array.foldl_toList];obtain⟨h1,h2,h3⟩:=S1 off v.cells.zipIdx.toList cs 0 (fun i q hi=>(hz i q hi).2) (by rw[hlen];omega);refine⟨h1,fun x hx=>h2 x (by rw[hlen];omega),fun i hi=> ?_⟩
 have hq:v.cells.zipIdx.toList[i]? =some (v.cells[i],0+i):=by
  rw[Z9p,ZbW];simp[hi]
 have:=h3 i _ hq;rw[Za6]at this;rw[this];simp[hi]
theorem SH(place:Nat→Option (Nat×Nat)): ∀(parts:List (Nat×Value)) (cs:Array Value),(∀p∈parts,∃off,place p.1=some (off,p.2.cells.size)∧off+p.2.cells.size≤cs.size)→
  ∃R,Instr.fill place cs parts=some R∧R.size=cs.size∧
   (∀x,(∀p∈parts,∀off n,place p.1=some (off,n)→x<off∨off+n≤x)→R[x]? =cs[x]?)∧
   ∀pre p suf,parts=pre++p::suf→ ∀off,place p.1=some (off,p.2.cells.size)→(∀q∈suf,∀o n,place q.1=some (o,n)→off+p.2.cells.size≤o∨o+n≤off)→ ∀j,j<p.2.cells.size→R[off+j]? =p.2.cells[j]?
 | [],cs,_=>⟨cs,rfl,rfl,fun _ _=>rfl,fun pre p suf hp=>by simp at hp⟩
 | (i,v)::parts,cs,hall=>by
   obtain⟨off,hpl,hle⟩:=hall (i,v) (by simp);simp only at hpl hle;obtain⟨h1,h2,h3⟩:=JL off v cs hle;obtain⟨R,hR,hsz,hout,hin⟩:=SH place parts (v.cells.zipIdx.foldl (fun cs (c,j)=>cs.setIfInBounds (off+j) c) cs) (fun p hp=>by rw[h1];exact hall p (by simp[hp]));refine⟨R,?_,by rw[hsz,h1],fun x hx=> ?_,fun pre p suf hp off' hpl' hsuf j hj=> ?_⟩
   ·have: ¬(off+v.cells.size>cs.size):=by omega
    simp only[Instr.fill,hpl];simp only[ne_eq,Zbc,ZaL,Zaf,this,ZaL,Z8U,Z9f];exact hR
   ·rw[hout x fun p hp=>hx p (by simp[hp])];exact h2 x (hx (i,v) (by simp) off _ hpl)
   ·cases pre with
    |nil=>
     simp only[Z9d,List.cons.injEq]at hp;obtain⟨rfl,rfl⟩:=hp;simp only at hpl' hj hsuf⊢;rw[hpl]at hpl';simp only[Z8l,Z8w]at hpl';obtain⟨rfl,_⟩:=hpl';rw[hout (off+j) fun q hq o n hq'=>by have:=hsuf q hq o n hq';omega];exact h3 j hj
    |cons y pre=>
     simp only[Z9s,List.cons.injEq]at hp;obtain⟨rfl,hp⟩:=hp;exact hin pre p suf hp off' hpl' hsuf j hj
end
end Vm
namespace Vm
open Go
open Go.RowKit (Below)
def ZF:List (CK×E)→List Nat→Nat→Option Nat
 | [],_,_=>none
 | (.own _,_)::_,t::_,0=>some t
 | (.own _,_)::r,_::ts,i+1=>ZF r ts i
 | (.own _,_)::_,[],_=>none
 |_::_,_,0=>none
 |_::r,ts,i+1=>ZF r ts i
def owns:List (CK×E)→Nat
 | []=>0
 | (.own _,_)::r=>owns r+1
 |_::r=>owns r
theorem VO: ∀ {l:List (CK×E)} {ts us:List Nat} {r:List (CK×E)} {i:Nat},owns l=ts.length→i<l.length→ZF (l++r) (ts++us) i=ZF l ts i
 | [],_,_,_,_,_,hi=>by simp at hi
 | (k,e)::l,ts,us,r,i,ho,hi=>by
   cases k with
   |own ty=>
    cases ts with
    |nil=>simp[owns]at ho
    |cons t ts=>
     simp only[owns,Z9o,ZbK]at ho;cases i with
     |zero=>simp[ZF]
     |succ i=>simpa[ZF]using VO ho (by simpa using hi)
   |_=>
    simp only[owns]at ho;cases i with
    |zero=>simp[ZF]
    |succ i=>simpa[ZF]using VO ho (by simpa using hi)
theorem WX: ∀ {l:List (CK×E)} {ts us:List Nat} {r:List (CK×E)} {i:Nat},owns l=ts.length→ZF (l++r) (ts++us) (l.length+i)=ZF r us i
 | [],ts,us,r,i,ho=>by
   have:ts= []:=Z95 (by simpa[owns]using ho.symm);subst this;simp
 | (k,e)::l,ts,us,r,i,ho=>by
   have e1:(l.length+1+i)=(l.length+i)+1:=by omega
   cases k with
   |own ty=>
    cases ts with
    |nil=>simp[owns]at ho
    |cons t ts=>
     simp only[owns,Z9o,ZbK]at ho;simp only[Z9o,Z9s,e1,ZF];exact WX ho
   |_=>
    simp only[owns]at ho;simp only[Z9o,Z9s,e1,ZF];exact WX ho
theorem SA: ∀(l r:List (CK×E)),owns (l++r)=owns l+owns r
 | [],r=>by simp[owns]
 | (k,e)::l,r=>by
   cases k<;>simp only[Z9s,owns,SA l r]<;>omega
section
variable {c:Ctx} {B:Nat} {G:Nat→Prop} {s:St} {a:Act} {w w':World} {h:GH} {g:Gam} {C:Zg}
def BRel(c:Ctx)(B:Nat)(s:St)(a:Act)(w:World)(h:GH)(cs:List (CK×E))(ts sh:List Nat)(i:Nat)(ck:CK×E)(v:Value):Prop:=
 match ck.1 with
 | .own ty=> ∃t,ZF cs ts i=some t∧t∈ts∧a.tmps[t]? =some v∧ ∃x,eval s ck.2=some x∧OwnV c.P B w h (h.bl t 1) ty x v
 | .nil=>v= .slice none 0 0∧eval s ck.2=some (.sl [])
 | .fz=> ∃x,eval s ck.2=some x∧x.one=true∧Rd w (h.ext sh) x v
 | .dead=>False
theorem Ky{zs:List V}{z:Array Value}(hz: ∀(j:Nat) (v:Value),z[j]? =some v→ ∃x,zs[j]? =some x∧VG v=some x)(hsz:z.size=zs.length)(o n:Nat):
  owns (Uq zs o n).1=0∧ ∀(cs:List (CK×E)) (ts sh:List Nat) (i:Nat) (j:Nat) (ck:CK×E),(Uq zs o n).1[j]? =some ck→BRel c B s a w h cs ts sh i ck (z.getD (o+j) undef):=by
 constructor
 ·unfold Uq;simp only
  induction (List.take n (List.drop o zs))with
  |nil=>rfl
  |cons x r ih=>cases x<;>simpa[owns]using ih
 ·intro cs ts sh i j ck hj;simp only[Uq,Z8D,Z8p]at hj;obtain⟨x,hx,rfl⟩:=hj;rw[Z8T]at hx;split at hx
  ·rw[Z8N]at hx;have hlt:o+j<z.size:=by rw[hsz];exact(Z8o.1 hx).1
   obtain⟨x',hx',hc⟩:=hz (o+j) z[o+j] (Z98 hlt);rw[hx]at hx';cases hx';have hget:z.getD (o+j) undef=z[o+j]:=by simp[hlt]
   rw[hget];generalize z[o+j]=v at hc;unfold VG at hc
   split at hc<;>first
    | (simp only[Z8l]at hc;subst hc;first|exact⟨_,rfl,rfl,.int _ _⟩ |exact⟨_,rfl,rfl,.bool _⟩ |exact⟨_,rfl,rfl,.str _⟩ |exact⟨rfl,rfl⟩ |exact⟨_,rfl,rfl,.nomp⟩ |exact⟨_,rfl,rfl,.nul0⟩ |exact⟨_,rfl,rfl,.nul1⟩)
    | (split at hc<;>first
      | (rename_i hs
         simp only[Z8l]at hc;subst hc;rw[Z9k hs.1,Z9k hs.2];exact⟨_,rfl,rfl,.fn _⟩)
      |simp at hc)
    |simp at hc
  ·simp at hx
theorem Z4F{e:E}{n j:Nat}{z:V}(hz:eval s (.fld e j)=some z): ∃y,eval s e=some y∧y.pc[j]? =some z∧z.one=true:=by
 simp only[eval,Z8m]at hz;obtain⟨y,hy,hf⟩:=hz;have h1:=SZ hf;unfold fldV at hf;rw[h1]at hf;exact⟨y,hy,h1,(X8 hf).2⟩
theorem Z4o{x:V}(h: ∀l,x≠ .tup l):x.pc=x.cells:=by
 cases x<;>first|rfl|exact absurd rfl (h _)
theorem T4(hr:RelG c B G s a w h g)(hC:holds s (ixC c C)){x:Operand}{b0:E×List Nat}(hx:opE g C x=some b0){ag fl:Bool}{n:Nat}(hn:n≠0){z:V}
  (hz:eval s (tyE ag n (flE fl b0).1)=some z):
  (∀l,z≠ .tup l)∧(ag=true→z.cells.length=n)∧(ag=false→z.one=true)∧Rd w (h.ext (flE fl b0).2) z (a.eval x):=by
 obtain⟨y,hy,hyr⟩:=YR hr hC (show opE g C x=some (b0.1,b0.2)from hx);obtain⟨h1,h2,h3,h4⟩:=TJ hz;obtain⟨z',hz',hzr⟩:=SW (fl:=fl) (b:=b0) hy hyr ⟨z,h1⟩;rw[h1]at hz';cases hz';exact⟨h2,h3,h4,hzr⟩
theorem Qx(hr:RelG c B G s a w h g)(hC:holds s (ixC c C)){n:Nat}(hn:n≠0){ag fl:Bool}{x:Operand}{b:BC}(hp:Sk g C n ag fl x=some b)(hlen:b.1.length=n)
  (hev: ∀ck∈b.1,∃z,eval s ck.2=some z):
  owns b.1=b.2.2.length∧(a.eval x).cells.size=n∧ ∀(sh:List Nat),(∀t∈b.2.1,t∈sh)→ ∀(j:Nat) (ck:CK×E),b.1[j]? =some ck→BRel c B s a w h b.1 b.2.2 sh j ck ((a.eval x).cells.getD j undef):=by
 have rest: ∀ {b:BC},((opE g C x).map fun a0=>let a:=flE fl a0;let e:=tyE ag n a.1;(if ag then(List.range n).map fun j=>(CK.fz,E.fld e j)else [(.fz,e)],a.2,[]))=some b→b.1.length=n→(∀ck∈b.1,∃z,eval s ck.2=some z)→
   owns b.1=b.2.2.length∧(a.eval x).cells.size=n∧ ∀(sh:List Nat),(∀t∈b.2.1,t∈sh)→ ∀(j:Nat) (ck:CK×E),b.1[j]? =some ck→BRel c B s a w h b.1 b.2.2 sh j ck ((a.eval x).cells.getD j undef):=by
  intro b hb hlen hev;simp only[Z8p]at hb;obtain⟨b0,hx,rfl⟩:=hb
  have hmono: ∀(sh:List Nat),(∀t∈(flE fl b0).2,t∈sh)→ ∀b,h.ext (flE fl b0).2 b→h.ext sh b:=by
   intro sh hsh b hb;rcases hb with hb| ⟨p,hp,i,hi⟩
   ·exact .inl hb
   ·exact .inr ⟨p,hsh p hp,i,hi⟩
  cases ag with
  |true=>
   simp only[Z9c]at hlen hev⊢;have h0:=hev (CK.fz,E.fld (tyE true n (flE fl b0).1) 0) (Z8S.2 ⟨0,Z9T.2 (by omega),rfl⟩);obtain⟨z0,hz0⟩:=h0;obtain⟨y,hy,_,_⟩:=Z4F (n:=n) hz0;obtain⟨h1,h2,_,h4⟩:=T4 hr hC hx hn hy;obtain⟨hs1,hs2,hs3⟩:=h4.cells h1;refine⟨?_,by rw[hs1,h2 rfl],fun sh hsh j ck hj=> ?_⟩
   ·generalize List.range n=l
    induction l with
    |nil=>rfl
    |cons q r ih=>simpa[owns]using ih
   ·simp only[Z8D,Z8p]at hj;obtain⟨j',hj',rfl⟩:=hj;have hlt:j<n:=by simpa using(Z8o.1 hj').1
    have hjj:j'=j:=by simpa[hlt]using hj'.symm
    subst hjj;have hget:y.cells[j']? =some (y.cells[j']'(by rw[h2 rfl];exact hlt)):=Z8n _;refine⟨_,?_,hs2 _ (Z8x hget),(hs3 j' _ hget).mono (hmono sh hsh)⟩;simp only[eval,hy,Z8y,fldV,Z4o h1,hget];unfold oneV;rw[if_pos (hs2 _ (Z8x hget))]
  |false=>
   simp only[Z8U,Z9f]at hlen hev⊢;obtain⟨y,hy⟩:=hev (CK.fz,tyE false n (flE fl b0).1) (Za9.2 rfl);have hy:eval s (tyE false n (flE fl b0).1)=some y:=hy;obtain⟨h1,_,h3,h4⟩:=T4 hr hC hx hn hy;obtain⟨hs1,hs2,hs3⟩:=h4.cells h1;rw[Yv (h3 rfl)]at hs1 hs3;refine⟨rfl,by rw[hs1];simpa using hlen,fun sh hsh j ck hj=> ?_⟩;cases j with
   |zero=>
    simp at hj;subst hj;exact⟨y,hy,h3 rfl,(hs3 0 y rfl).mono (hmono sh hsh)⟩
   |succ j=>simp at hj
 unfold Sk at hp;split at hp
 ·rename_i t ty e hk;simp only[Z8l]at hp;subst hp;obtain⟨v,hv,⟨x,hx,ho⟩,_⟩:=hr.look hC (show look g C t=_ from hk) rfl
  have hone:v.cells= #[v]:=by
   rcases ho with ⟨l,xs,_,_,_,⟨_,hc⟩,_⟩ | ⟨_,_,_,_,_,_,_,rfl,_⟩
   ·rcases hc with ⟨rfl,_⟩ | ⟨_,_,_,rfl,_⟩<;>rfl
   ·rfl
  rw[Act.eval_tmp a t v hv,hone];refine⟨rfl,by simpa using hlen,fun sh hsh j ck hj=> ?_⟩;cases j with
  |zero=>
   simp at hj;subst hj;exact⟨t,rfl,by simp,by simpa using hv,x,hx,by simpa using ho⟩
  |succ j=>simp at hj
 ·rename_i hk;simp only[Z8l]at hp;subst hp;rw[UZ hr hC hk];refine⟨rfl,by simpa[Value.cells]using hlen,fun sh hsh j ck hj=> ?_⟩;cases j with
  |zero=>simp at hj;subst hj;exact⟨rfl,rfl⟩
  |succ j=>simp at hj
 ·exact rest hp hlen hev
theorem BRel.left{cs r:List (CK×E)}{ts us sh:List Nat}{i:Nat}{ck:CK×E}{v:Value}(hb:BRel c B s a w h cs ts sh i ck v)(ho:owns cs=ts.length)(hi:i<cs.length):BRel c B s a w h (cs++r) (ts++us) sh i ck v:=by
 unfold BRel at*;split at hb
 ·obtain⟨t,h1,h2,h3⟩:=hb;exact⟨t,by rw[VO ho hi];exact h1,by simp[h2],h3⟩
 ·exact hb
 ·exact hb
 ·exact hb
theorem BRel.right{cs r:List (CK×E)}{ts us sh:List Nat}{i:Nat}{ck:CK×E}{v:Value}(hb:BRel c B s a w h r us sh i ck v)(ho:owns cs=ts.length):BRel c B s a w h (cs++r) (ts++us) sh (cs.length+i) ck v:=by
 unfold BRel at*;split at hb
 ·obtain⟨t,h1,h2,h3⟩:=hb;exact⟨t,by rw[WX ho];exact h1,by simp[h2],h3⟩
 ·exact hb
 ·exact hb
 ·exact hb
theorem Uk(hr:RelG c B G s a w h g)(hC:holds s (ixC c C)){zs:List V}{parts:List (Nat×Operand)}{z:Array Value}(hz: ∀(j:Nat) (v:Value),z[j]? =some v→ ∃x,zs[j]? =some x∧VG v=some x)(hsz:z.size=zs.length)(sh:List Nat):
  ∀(fs:List (Nat×Nat×Bool×Bool)) (i o:Nat) (b:BC),V4 g C zs parts fs i o=some b→(∀ck∈b.1,∃z,eval s ck.2=some z)→(∀t∈b.2.1,t∈sh)→
   o+b.1.length=zs.length∧owns b.1=b.2.2.length∧
   (∀(q:Nat) (f:Nat×Nat×Bool×Bool),fs[q]? =some f→o≤f.1∧f.1+f.2.1≤zs.length∧(∀(q':Nat) (f':Nat×Nat×Bool×Bool),fs[q']? =some f'→q<q'→f.1+f.2.1≤f'.1))∧
   (∀(q:Nat) (f:Nat×Nat×Bool×Bool) (p:Nat×Operand),fs[q]? =some f→parts.find? (fun p=>p.1==i+q)=some p→(a.eval p.2).cells.size=f.2.1)∧
   ∀R:Array Value,(∀(q:Nat) (f:Nat×Nat×Bool×Bool),fs[q]? =some f→ ∀j,j<f.2.1→R.getD (f.1+j) undef=match parts.find? (fun p=>p.1==i+q)with|some p=>(a.eval p.2).cells.getD j undef|none=>z.getD (f.1+j) undef)→
    ∀(j:Nat) (ck:CK×E),b.1[j]? =some ck→BRel c B s a w h b.1 b.2.2 sh j ck (R.getD (o+j) undef)
 | [],i,o,b,hb,_,_=>by
   simp only[V4]at hb;split at hb
   ·simp only[Z8l]at hb;subst hb;exact⟨by simpa,rfl,fun q f hq=>by simp at hq,fun q f p hq=>by simp at hq,fun R _ j ck hj=>by simp at hj⟩
   ·simp at hb
 |f::fs,i,o,b,hb,hev,hsh=>by
  simp only[V4,Z8m]at hb;obtain⟨b1,hb1,hb⟩:=hb;split at hb
  ·rename_i hcond;obtain⟨ho,hl1,hn⟩:=hcond;simp only[Z8p]at hb;obtain⟨b2,hb2,rfl⟩:=hb;simp only[Z90]at hev hsh;obtain⟨h1,h2,h3,h4,h5⟩:=Uk hr hC hz hsz sh fs (i+1) (o+f.2.1) b2 hb2 (fun ck hck=>hev ck (.inr hck)) (fun t ht=>hsh t (.inr ht))
   have hfst:owns b1.1=b1.2.2.length∧(∀p,parts.find? (fun p=>p.1==i)=some p→(a.eval p.2).cells.size=f.2.1)∧
     ∀(j:Nat) (ck:CK×E),b1.1[j]? =some ck→BRel c B s a w h b1.1 b1.2.2 sh j ck (match parts.find? (fun p=>p.1==i)with|some p=>(a.eval p.2).cells.getD j undef|none=>z.getD (f.1+j) undef):=by
    unfold Z2L at hb1;cases hfind:parts.find? (fun p=>p.1==i)with
    |some p=>
     simp only[hfind]at hb1;obtain⟨k1,k2,k3⟩:=Qx hr hC hn hb1 hl1 fun ck hck=>hev ck (.inl hck);exact⟨k1,fun p' hp'=>by cases hp';exact k2,fun j ck hj=>k3 sh (fun t ht=>hsh t (.inl ht)) j ck hj⟩
    |none=>
     simp only[hfind,Z8l]at hb1;subst hb1;obtain⟨k1,k2⟩:=Ky (c:=c) (B:=B) (s:=s) (a:=a) (w:=w) (h:=h) hz hsz f.1 f.2.1;exact⟨k1,(fun p' hp'=>by cases hp'),fun j ck hj=>k2 _ _ sh j j ck hj⟩
   obtain⟨f1,f2,f3⟩:=hfst;refine⟨by simp only[Z8W];omega,by simp only[SA,Z8W,f1,h2],fun q f' hq=> ?_,fun q f' p hq hp=> ?_,fun R hR j ck hj=> ?_⟩
   ·cases q with
    |zero=>
     simp at hq;subst hq;refine⟨by omega,by omega,fun q' f' hq' hlt=> ?_⟩;cases q' with
     |zero=>omega
     |succ q'=>have:=(h3 q' f' (by simpa using hq')).1;omega
    |succ q=>
     obtain⟨g1,g2,g3⟩:=h3 q f' (by simpa using hq);refine⟨by omega,g2,fun q' f'' hq' hlt=> ?_⟩;cases q' with
     |zero=>omega
     |succ q'=>exact g3 q' f'' (by simpa using hq') (by omega)
   ·cases q with
    |zero=>simp at hq;subst hq;exact f2 p (by simpa using hp)
    |succ q=>exact h4 q f' p (by simpa using hq) (by rw[show i+1+q=i+(q+1)from by omega];exact hp)
   ·by_cases hlt:j<b1.1.length
    ·rw[Z8G hlt]at hj;have hR0:=hR 0 f rfl j (by omega);rw[ho]at hR0;rw[hR0];have:=f3 j ck hj;rw[ho]at this;exact(this).left f1 hlt
    ·rw[Z8F (by omega)]at hj
     have:=h5 R (fun q f' hq j' hj'=>by
      have:=hR (q+1) f' (by simpa using hq) j' hj';rw[show i+(q+1)=i+1+q from by omega]at this;exact this) (j-b1.1.length) ck hj
     have hres:=this.right (cs:=b1.1) (ts:=b1.2.2) f1;rw[show b1.1.length+(j-b1.1.length)=j from by omega]at hres;rw[show o+f.2.1+(j-b1.1.length)=o+j from by omega]at hres;exact hres
  ·simp at hb
theorem VR: ∀ {l:List Nat},Uf l=true→l.Nodup
 | [],_=>List.nodup_nil
 |x::l,hl=>by
  simp only[Uf,Z8u,Z9l,Z9z,Zb2]at hl;exact Zak.2 ⟨hl.1,VR hl.2⟩
theorem UE{β:Type}: ∀ {l:List (Nat×β)} {p:Nat×β},(l.map (·.1)).Nodup→p∈l→l.find? (fun q=>q.1==p.1)=some p
 | [],p,_,hp=>by simp at hp
 |q::l,p,hn,hp=>by
  simp only[Z8Q,Zak]at hn;rcases Z8V.1 hp with rfl|hp
  ·simp
  ·have hne:q.1≠p.1:=fun he=>hn.1 (by rw[he];exact Z8S.2 ⟨p,hp,rfl⟩);rw[List.find?_cons_of_neg (by simpa using hne)];exact UE hn.2 hp
theorem jv{α β:Type}{f:α→Option β}{g:α→β}: ∀(l:List α),(∀x∈l,f x=some (g x))→l.mapM f=some (l.map g)
 | [],_=>rfl
 |x::l,hx=>by
  rw[ZbF,hx x (by simp),jv l fun y hy=>hx y (by simp[hy])];rfl
theorem UJ{β:Type}{n q:Nat}{f:Nat→β}{x:β}(h:((List.range n).map f)[q]? =some x):q<n∧x=f q:=by
 simp only[Z8D,Z8p]at h;obtain⟨i,hi,rfl⟩:=h;obtain⟨h1,h2⟩:=Z8o.1 hi;simp at h1 h2;exact⟨h1,by rw[h2]⟩
theorem Q8(hr:RelG c B G s a w h g)(hC:holds s (ixC c C)){T:TypeId}{fs:List (Nat×Nat×Bool×Bool)}(hT:zm c.P T=some fs){zs:List V}(hz:zeroCells c.P T=some zs){parts:Array (Nat×Operand)}{b:BC}
  (hb:Vr g C zs parts.toList fs=some b) (hev: ∀ck∈b.1,∃z,eval s ck.2=some z):
  ∃vs,(Instr.build T (parts.map fun(i,x)=>(i,a.eval x))).run c.P w= .ok (.agg vs) w∧vs.size=b.1.length∧owns b.1=b.2.2.length∧
   ∀(j:Nat) (ck:CK×E),b.1[j]? =some ck→BRel c B s a w h b.1 b.2.2 b.2.1 j ck (vs.getD j undef):=by
 unfold Vr at hb;split at hb
 ·rename_i hcond;simp only[Z8u,Z8A,Z8L]at hcond;obtain⟨hnd,hlt⟩:=hcond;have hnd:=VR hnd;obtain⟨i,z,hi,hz0,hsz,hcells⟩:=Wf hz
  obtain⟨place,hplace,hbuilt0⟩: ∃place:Nat→Option (Nat×Nat),(∀(q:Nat) (f:Nat×Nat×Bool×Bool),fs[q]? =some f→place q=some (f.1,f.2.1))∧
    ∀(ps:List (Nat×Value)) (R:Array Value),Instr.fill place z.cells ps=some R→c.P.built T ps=some R:=by
   unfold zm at hT;split at hT
   ·rename_i fs' htd;cases hT;obtain⟨fds,hu,hok,rfl⟩:=Z4S htd
    have hpl:fds.toList.mapM (fun f=>(c.P.info? f.type).map fun i=>(f.offset,i.size))=some (fds.toList.map fun f=>(f.offset,c.P.cellsOf f.type)):=by
     apply jv;intro f hf;obtain⟨d,i,hd,hi,hs,_⟩:=Wy (hok f (ZaR.1 hf));simp[hi,hs]
    refine⟨fun x=>(fds.toList.map fun f=>(f.offset,c.P.cellsOf f.type)).toArray[x]?,fun q f hq=> ?_,fun ps R hR=> ?_⟩
    ·simp only[Z8D,Z8p]at hq;obtain⟨f',hf',rfl⟩:=hq;simp[hf']
    ·simp only[Program.built,hi,hu,hz0,hpl];exact hR
   ·rename_i n el htd;split at hT
    ·rename_i hok;cases hT;have hu:=Z3c htd;obtain⟨d,i',hd,hi',hs,_⟩:=Wy hok;refine⟨fun x=>some (x*c.P.cellsOf el,c.P.cellsOf el),fun q f hq=> ?_,fun ps R hR=> ?_⟩
     ·obtain⟨_,rfl⟩:=UJ hq;rfl
     ·simp only[Program.built,hi,hu,hz0,hi',←hs];exact hR
    ·cases hT
   ·cases hT
  obtain⟨h1,h2,h3,h4,h5⟩:=Uk hr hC hcells hsz b.2.1 _ 0 0 b hb hev (fun t ht=>ht);simp only[Z97]at h1 h4 h5
  have hmem: ∀p∈parts.toList,∃f,fs[p.1]? =some f∧(a.eval p.2).cells.size=f.2.1:=by
   intro p hp;have hl:=hlt p hp;refine⟨_,Z8n hl,h4 p.1 _ p (Z8n hl) (UE hnd hp)⟩
  obtain⟨R,hR,hRs,hRout,hRin⟩:=SH place (parts.toList.map fun p=>(p.1,a.eval p.2)) z.cells (by
   intro p hp;obtain⟨p',hp',rfl⟩:=Z8S.1 hp;obtain⟨f,hf,hsf⟩:=hmem p' hp';refine⟨f.1,by rw[hplace _ f hf,hsf],?_⟩;simp only;rw[hsf,hsz];exact(h3 _ f hf).2.1)
  have hbuilt:c.P.built T (parts.map fun(i,x)=>(i,a.eval x)).toList=some R:=hbuilt0 _ _ (by simpa only[Array.toList_map]using hR);refine⟨R,run_build w T _ R hbuilt,by rw[hRs,hsz];omega,h2,fun j ck hj=>h5 R (fun q f hq j' hj'=> ?_) j ck hj⟩
  have hdisj: ∀(q':Nat) (f':Nat×Nat×Bool×Bool),fs[q']? =some f'→q'≠q→f.1+f.2.1≤f'.1∨f'.1+f'.2.1≤f.1:=by
   intro q' f' hq' hne;rcases ZaK hne with hl|hl
   ·exact .inr ((h3 q' f' hq').2.2 q f hq hl)
   ·exact .inl ((h3 q f hq).2.2 q' f' hq' hl)
  cases hfind:parts.toList.find? (fun p=>p.1==q)with
  |some p=>
   have hpm:=Za5 hfind;have hpq:p.1=q:=by simpa using ZaM hfind
   obtain⟨pre,suf,hps⟩:=List.append_of_mem hpm;obtain⟨f',hf',hsf⟩:=hmem p hpm;rw[hpq,hq]at hf';cases hf'
   have hin:=hRin (pre.map fun p=>(p.1,a.eval p.2)) (p.1,a.eval p.2) (suf.map fun p=>(p.1,a.eval p.2)) (by rw[hps];simp) f.1 (by rw[hpq,hplace q f hq,hsf]) (by
    intro q' hq' o n ho;obtain⟨p',hp',rfl⟩:=Z8S.1 hq';obtain⟨f'',hf'',_⟩:=hmem p' (by rw[hps];simp[hp']);simp only at ho;rw[hplace _ f'' hf'']at ho;simp only[Z8l,Z8w]at ho;obtain⟨rfl,rfl⟩:=ho;simp only;rw[hsf];refine hdisj p'.1 f'' hf'' fun he=> ?_;rw[hps]at hnd;simp only[Z9Q,Z8Q,Zbd,Zak]at hnd;exact hnd.2.1.1 (by rw[hpq,←he];exact Z8S.2 ⟨p',hp',rfl⟩)) j' (by simp only;rw[hsf];exact hj')
   simp only[Z8q];rw[hin]
  |none=>
   have hout:=hRout (f.1+j') (by
    intro p hp off n ho;obtain⟨p',hp',rfl⟩:=Z8S.1 hp;obtain⟨f'',hf'',_⟩:=hmem p' hp';simp only at ho;rw[hplace _ f'' hf'']at ho;simp only[Z8l,Z8w]at ho;obtain⟨rfl,rfl⟩:=ho
    have hne:p'.1≠q:=fun he=>by
     have:=Zbx.1 hfind p' hp';simp[he]at this
    have:=hdisj p'.1 f'' hf'' hne;omega)
   simp only[Z8q];rw[hout]
 ·simp at hb
end
end Vm
end
