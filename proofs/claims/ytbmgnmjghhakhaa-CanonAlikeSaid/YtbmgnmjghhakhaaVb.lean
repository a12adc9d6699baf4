/-
  Expressions over states of trees; the kinds of what a region's temporaries hold; how a region is read as expressions and effects.
-/
import Derived.Test.YtbmgnmjghhakhaaVa
namespace Vm
open Go
set_option linter.unusedVariables false

/-- what kind of keys -/
inductive KC where
  | b | i (k : IntKind) | s
  deriving DecidableEq, Inhabited
inductive E where
  | c (v : V)
  | s (t : Nat)
  | m (t i : Nat)
  | mm (t i n : Nat)
  | bin (op : BinOp) (a b : E)
  | eqv (neg : Bool) (a b : E)
  | un (op : UnOp) (a : E)
  | conv (k : IntKind) (a : E)
  | len (a : E)
  | mn (a b : E)
  | mx (a b : E)
  | ext (a : E) (i : Nat)
  | idx (a i : E) (k : Nat)
  | fld (a : E) (o : Nat)
  | flds (a : E) (o n : Nat)
  | ai (a i : E) (n k : Nat) (ag : Bool)
  | slc (a lo hi : E) (k : Nat)
  | slcl (a lo : E) (k : Nat)
  | app (a b : E) (k : Nat)
  | upd (a i : E) (o : Nat) (b : E)
  | aput (a i : E) (n k : Nat) (b : E)
  | mk (z : V) (n : E)
  | lit (l : List E)
  | ag (l : List E)
  | ite (c a b : E)
  | star (a : E)
  | isag (a : E)
  | one (a : E)
  | sz (a : E) (n : Nat)
  | fl (a : E)
  | fls (a : E)
  | lk (kc : KC) (a k : E) (z : V) (ok : Bool)
  | mput (kc : KC) (a k v : E)
  | mlen (a : E)
  | mclr (a : E)
  deriving Inhabited

/-- what a state holds at a place: nothing, a value, or a variable's cells -/
inductive SV where
  | no
  | v (x : V)
  | m (cs : List V)
  deriving Inhabited
abbrev St := List SV
def get (s : St) (t : Nat) : SV := (s[t]?).getD .no

def lim : Nat := 4294967296
def binV : BinOp → V → V → Option V
  | .add, .int k a, .int k' b => if k = k' then some (.int k (k.wrap (a + b))) else none
  | .sub, .int k a, .int k' b => if k = k' then some (.int k (k.wrap (a - b))) else none
  | .mul, .int k a, .int k' b => if k = k' then some (.int k (k.wrap (a * b))) else none
  | .quo, .int k a, .int k' b => if k = k' ∧ b ≠ 0 then some (.int k (k.wrap (a.tdiv b))) else none
  | .rem, .int k a, .int k' b => if k = k' ∧ b ≠ 0 then some (.int k (a.tmod b)) else none
  | .and, .int k a, .int k' b => if k = k' then some (.int k (k.wrap (BitVec.ofInt k.bits a &&& BitVec.ofInt k.bits b).toNat)) else none
  | .or, .int k a, .int k' b => if k = k' then some (.int k (k.wrap (BitVec.ofInt k.bits a ||| BitVec.ofInt k.bits b).toNat)) else none
  | .xor, .int k a, .int k' b => if k = k' then some (.int k (k.wrap (BitVec.ofInt k.bits a ^^^ BitVec.ofInt k.bits b).toNat)) else none
  | .shl, .int k a, .int _ b => if 0 ≤ b then some (.int k (k.wrap (a * 2 ^ (min b.toNat k.bits)))) else none
  | .shr, .int k a, .int _ b => if 0 ≤ b then some (.int k (a.fdiv (2 ^ (min b.toNat k.bits)))) else none
  | .eql, .int k a, .int k' b => if k = k' then some (.bool (a == b)) else none
  | .neq, .int k a, .int k' b => if k = k' then some (.bool (a != b)) else none
  | .lss, .int k a, .int k' b => if k = k' then some (.bool (decide (a < b))) else none
  | .leq, .int k a, .int k' b => if k = k' then some (.bool (decide (a ≤ b))) else none
  | .gtr, .int k a, .int k' b => if k = k' then some (.bool (decide (a > b))) else none
  | .geq, .int k a, .int k' b => if k = k' then some (.bool (decide (a ≥ b))) else none
  | _, _, _ => none
def eqV (neg : Bool) : V → V → Option V
  | .bool a, .bool b => some (.bool (neg ^^ (a == b)))
  | _, _ => none
def unV : UnOp → V → Option V
  | .neg, .int k n => some (.int k (k.wrap (0 - n)))
  | .not, .bool b => some (.bool !b)
  | _, _ => none
def convV (k : IntKind) : V → Option V
  | .int _ n => some (.int k (k.wrap n))
  | _ => none
def lenV : V → Option V
  | .sl l => some (.int .i64 l.length)
  | _ => none
def minV : V → V → Option V
  | .int k x, .int _ y => some (.int k (if y < x then y else x))
  | _, _ => none
def maxV : V → V → Option V
  | .int k x, .int _ y => some (.int k (if y > x then y else x))
  | _, _ => none
def extV : V → Nat → Option V
  | .tup l, i => l[i]?
  | _, _ => none
/-- an element, of so many cells -/
def idxV (x i : V) (k : Nat) : Option V :=
  match x, i with
  | .sl l, .int _ i => if 0 ≤ i then (l[i.toNat]?).bind fun z => if z.cells.length = k then some z else none else none
  | _, _ => none
/-- the cells that a value has -/
def V.pc : V → List V
  | .agg cs => cs
  | x => [x]
def starV : V → Option V
  | .ptr cs => some (.agg cs)
  | _ => none
def oneV (x : V) : Option V := if x.one then some x else none
def szV (x : V) (n : Nat) : Option V := if x.cells.length = n then match x with | .tup _ => none | x => some x else none
def isagV : V → Option V
  | .agg cs => some (.agg cs)
  | _ => none
def fldV (x : V) (o : Nat) : Option V := (x.pc[o]?).bind oneV
/-- elements of so many cells -/
def sizeOk (k : Nat) (l : List V) : Bool := l.all fun x => x.cells.length == k
def fldsV (x : V) (o n : Nat) : Option V := if o + n ≤ x.pc.length then some (.agg ((x.pc.drop o).take n)) else none
def aiV (x i : V) (n k : Nat) (ag : Bool) : Option V :=
  match x, i with
  | .agg cs, .int _ i => if 0 ≤ i ∧ i < n ∧ cs.length = n * k then (if ag then some (.agg ((cs.drop (i.toNat * k)).take k)) else cs[i.toNat * k]?) else none
  | _, _ => none
def slcV (k : Nat) : V → V → V → Option V
  | .sl l, .int _ a, .int _ b => if 0 ≤ a ∧ a ≤ b ∧ b ≤ l.length ∧ sizeOk k l = true then some (.sl ((l.take b.toNat).drop a.toNat)) else none
  | _, _, _ => none
def slclV (k : Nat) : V → V → Option V
  | .sl l, .int _ a => if 0 ≤ a ∧ a ≤ l.length ∧ sizeOk k l = true then some (.sl (l.drop a.toNat)) else none
  | _, _ => none
def appV (k : Nat) : V → V → Option V
  | .sl a, .sl b => if a.length + b.length ≤ lim ∧ sizeOk k b = true then some (.sl (a ++ b)) else none
  | _, _ => none
/-- cells of a value from place o on become those of b -/
def setCells (cs : List V) (o : Nat) (b : List V) : List V := cs.take o ++ b ++ cs.drop (o + b.length)
def V.put (x : V) (o : Nat) (b : List V) : V :=
  match x with
  | .agg cs => .agg (setCells cs o b)
  | _ => b.headD x
def updV (x i : V) (o : Nat) (b : V) : Option V :=
  match x, i with
  | .sl l, .int _ i => if 0 ≤ i then (l[i.toNat]?).bind fun y => if o + b.cells.length ≤ y.cells.length ∧ b.cells ≠ [] then some (.sl (l.set i.toNat (y.put o b.cells))) else none else none
  | _, _ => none
/-- an array, whose element i is another one -/
def aputV (x i : V) (n k : Nat) (b : V) : Option V :=
  match x, i with
  | .agg cs, .int _ i => if 0 ≤ i ∧ i < n ∧ cs.length = n * k ∧ b.cells.length = k then some (.agg (setCells cs (i.toNat * k) b.cells)) else none
  | _, _ => none
def mkV (z : V) : V → Option V
  | .int _ n => if 0 ≤ n ∧ n ≤ lim then some (.sl (List.replicate n.toNat z)) else none
  | _ => none
def agV (l : List V) : V := .agg (flat l)
def V.flatc : V → Bool
  | .int .. | .bool _ | .str _ => true
  | _ => false
/-- a value without lists: it shares no memory -/
def flV (x : V) : Option V :=
  match x with
  | .tup _ => none
  | x => if x.cells.all V.flatc then some x else none
/-- a list whose elements are without lists -/
def flsV (x : V) : Option V :=
  match x with
  | .sl l => if (Vm.flat l).all V.flatc then some x else none
  | _ => none
/-- is a map's key the same? -/
def keyEq : V → V → Option Bool
  | .int k a, .int k' b => if k = k' then some (a == b) else none
  | .bool a, .bool b => some (a == b)
  | .str a, .str b => some (a == b)
  | _, _ => none
/-- where a key stands -/
def findV (k : V) : List V → Option (Option Nat)
  | [] => some none
  | y :: l => match keyEq k y with
    | some true => some (some 0)
    | some false => (findV k l).map fun r => r.map (· + 1)
    | none => none
def isK : KC → V → Bool
  | .b, .bool _ => true
  | .i k, .int k' _ => decide (k = k')
  | .s, .str _ => true
  | _, _ => false
def lkV (kc : KC) (x k z : V) (ok : Bool) : Option V :=
  if isK kc k = false then none else
  match x with
  | .mp _ ks vs => match findV k ks with
    | some (some i) => (vs[i]?).map fun v => if ok then .tup [v, .bool true] else v
    | some none => some (if ok then .tup [z, .bool false] else z)
    | none => none
  | _ => none
def mputV (kc : KC) (x k v : V) : Option V :=
  if isK kc k = false then none else
  match x with
  | .mp id ks vs => match findV k ks with
    | some (some i) => some (.mp id ks (vs.set i v))
    | some none => some (.mp id (ks ++ [k]) (vs ++ [v]))
    | none => none
  | _ => none
def mclrV : V → Option V
  | .mp id _ _ => some (.mp id [] [])
  | _ => none
def mlenV : V → Option V
  | .mp _ ks _ => some (.int .i64 ks.length)
  | _ => none
def iteV (c : V) (a b : Option V) : Option V :=
  match c with
  | .bool true => a
  | .bool false => b
  | _ => none

mutual
def eval (s : St) : E → Option V
  | .c v => some v
  | .s t => match get s t with | .v x => some x | _ => none
  | .m t i => match get s t with | .m cs => (cs[i]?).bind oneV | _ => none
  | .mm t i n => match get s t with | .m cs => if i + n ≤ cs.length then some (.agg ((cs.drop i).take n)) else none | _ => none
  | .bin op a b => (eval s a).bind fun x => (eval s b).bind fun y => binV op x y
  | .eqv n a b => (eval s a).bind fun x => (eval s b).bind fun y => eqV n x y
  | .un op a => (eval s a).bind (unV op)
  | .conv k a => (eval s a).bind (convV k)
  | .len a => (eval s a).bind lenV
  | .mn a b => (eval s a).bind fun x => (eval s b).bind fun y => minV x y
  | .mx a b => (eval s a).bind fun x => (eval s b).bind fun y => maxV x y
  | .ext a i => (eval s a).bind fun x => extV x i
  | .idx a i k => (eval s a).bind fun x => (eval s i).bind fun y => idxV x y k
  | .fld a o => (eval s a).bind fun x => fldV x o
  | .flds a o n => (eval s a).bind fun x => fldsV x o n
  | .ai a i n k ag => (eval s a).bind fun x => (eval s i).bind fun y => aiV x y n k ag
  | .slc a lo hi k => (eval s a).bind fun x => (eval s lo).bind fun y => (eval s hi).bind fun z => slcV k x y z
  | .slcl a lo k => (eval s a).bind fun x => (eval s lo).bind fun y => slclV k x y
  | .app a b k => (eval s a).bind fun x => (eval s b).bind fun y => appV k x y
  | .upd a i o b => (eval s a).bind fun x => (eval s i).bind fun y => (eval s b).bind fun z => updV x y o z
  | .aput a i n k b => (eval s a).bind fun x => (eval s i).bind fun y => (eval s b).bind fun z => aputV x y n k z
  | .mk z n => (eval s n).bind (mkV z)
  | .lit l => (evals s l).map .sl
  | .ag l => (evals s l).map agV
  | .ite c a b => (eval s c).bind fun x => iteV x (eval s a) (eval s b)
  | .star a => (eval s a).bind starV
  | .isag a => (eval s a).bind isagV
  | .one a => (eval s a).bind oneV
  | .sz a n => (eval s a).bind fun x => szV x n
  | .fl a => (eval s a).bind flV
  | .fls a => (eval s a).bind flsV
  | .lk kc a k z ok => (eval s a).bind fun x => (eval s k).bind fun y => lkV kc x y z ok
  | .mput kc a k v => (eval s a).bind fun x => (eval s k).bind fun y => (eval s v).bind fun z => mputV kc x y z
  | .mlen a => (eval s a).bind mlenV
  | .mclr a => (eval s a).bind mclrV
def evals (s : St) : List E → Option (List V)
  | [] => some []
  | e :: l => (eval s e).bind fun x => (evals s l).map (x :: ·)
end

/-! ### The same expression; parts of one -/
mutual
def V.same : V → V → Bool
  | .int k n, .int k' n' => decide (k = k') && decide (n = n')
  | .bool a, .bool b => a == b
  | .sl a, .sl b => V.sames a b
  | .agg a, .agg b => V.sames a b
  | .tup a, .tup b => V.sames a b
  | .fn a, .fn b => a == b
  | .mp i a b, .mp i' a' b' => i == i' && V.sames a a' && V.sames b b'
  | _, _ => false
def V.sames : List V → List V → Bool
  | [], [] => true
  | a :: l, b :: r => V.same a b && V.sames l r
  | _, _ => false
end
mutual
def E.same : E → E → Bool
  | .c a, .c b => V.same a b
  | .s a, .s b => a == b
  | .m a i, .m b j => a == b && i == j
  | .mm a i n, .mm b j n' => a == b && i == j && n == n'
  | .bin o a b, .bin o' a' b' => decide (o = o') && E.same a a' && E.same b b'
  | .eqv o a b, .eqv o' a' b' => o == o' && E.same a a' && E.same b b'
  | .un o a, .un o' a' => decide (o = o') && E.same a a'
  | .conv k a, .conv k' a' => decide (k = k') && E.same a a'
  | .len a, .len b => E.same a b
  | .mn a b, .mn a' b' => E.same a a' && E.same b b'
  | .mx a b, .mx a' b' => E.same a a' && E.same b b'
  | .ext a i, .ext b j => E.same a b && i == j
  | .idx a b k, .idx a' b' k' => E.same a a' && E.same b b' && k == k'
  | .fld a o, .fld b o' => E.same a b && o == o'
  | .flds a o n, .flds b o' n' => E.same a b && o == o' && n == n'
  | .ai a i n k g, .ai a' i' n' k' g' => E.same a a' && E.same i i' && n == n' && k == k' && g == g'
  | .slc a b d k, .slc a' b' d' k' => E.same a a' && E.same b b' && E.same d d' && k == k'
  | .slcl a b k, .slcl a' b' k' => E.same a a' && E.same b b' && k == k'
  | .app a b k, .app a' b' k' => E.same a a' && E.same b b' && k == k'
  | .upd a i o b, .upd a' i' o' b' => E.same a a' && E.same i i' && o == o' && E.same b b'
  | .aput a i n k b, .aput a' i' n' k' b' => E.same a a' && E.same i i' && n == n' && k == k' && E.same b b'
  | .mk z n, .mk z' n' => V.same z z' && E.same n n'
  | .lit l, .lit r => E.sames l r
  | .ag l, .ag r => E.sames l r
  | .star a, .star b => E.same a b
  | .isag a, .isag b => E.same a b
  | .one a, .one b => E.same a b
  | .sz a n, .sz b n' => E.same a b && n == n'
  | .fl a, .fl b => E.same a b
  | .fls a, .fls b => E.same a b
  | .lk q a k z o, .lk q' a' k' z' o' => decide (q = q') && E.same a a' && E.same k k' && V.same z z' && o == o'
  | .mput q a k v, .mput q' a' k' v' => decide (q = q') && E.same a a' && E.same k k' && E.same v v'
  | .mlen a, .mlen b => E.same a b
  | .mclr a, .mclr b => E.same a b
  | .ite a b d, .ite a' b' d' => E.same a a' && E.same b b' && E.same d d'
  | _, _ => false
def E.sames : List E → List E → Bool
  | [], [] => true
  | a :: l, b :: r => E.same a b && E.sames l r
  | _, _ => false
end
mutual
/-- x is e, or a part of it that must have a value where e has one -/
def E.has (x : E) : E → Bool
  | .bin o a b => E.same x (.bin o a b) || E.has x a || E.has x b
  | .eqv o a b => E.same x (.eqv o a b) || E.has x a || E.has x b
  | .un o a => E.same x (.un o a) || E.has x a
  | .conv k a => E.same x (.conv k a) || E.has x a
  | .len a => E.same x (.len a) || E.has x a
  | .mn a b => E.same x (.mn a b) || E.has x a || E.has x b
  | .mx a b => E.same x (.mx a b) || E.has x a || E.has x b
  | .ext a i => E.same x (.ext a i) || E.has x a
  | .idx a b k => E.same x (.idx a b k) || E.has x a || E.has x b
  | .fld a o => E.same x (.fld a o) || E.has x a
  | .flds a o n => E.same x (.flds a o n) || E.has x a
  | .ai a i n k g => E.same x (.ai a i n k g) || E.has x a || E.has x i
  | .slc a b d k => E.same x (.slc a b d k) || E.has x a || E.has x b || E.has x d
  | .slcl a b k => E.same x (.slcl a b k) || E.has x a || E.has x b
  | .app a b k => E.same x (.app a b k) || E.has x a || E.has x b
  | .upd a i o b => E.same x (.upd a i o b) || E.has x a || E.has x i || E.has x b
  | .aput a i n k b => E.same x (.aput a i n k b) || E.has x a || E.has x i || E.has x b
  | .mk z n => E.same x (.mk z n) || E.has x n
  | .lit l => E.same x (.lit l) || E.hasIn x l
  | .ag l => E.same x (.ag l) || E.hasIn x l
  | .ite a b d => E.same x (.ite a b d) || E.has x a
  | .star a => E.same x (.star a) || E.has x a
  | .isag a => E.same x (.isag a) || E.has x a
  | .one a => E.same x (.one a) || E.has x a
  | .sz a n => E.same x (.sz a n) || E.has x a
  | .fl a => E.same x (.fl a) || E.has x a
  | .fls a => E.same x (.fls a) || E.has x a
  | .lk q a k z o => E.same x (.lk q a k z o) || E.has x a || E.has x k
  | .mput q a k v => E.same x (.mput q a k v) || E.has x a || E.has x k || E.has x v
  | .mlen a => E.same x (.mlen a) || E.has x a
  | .mclr a => E.same x (.mclr a) || E.has x a
  | .c v => E.same x (.c v)
  | .s t => E.same x (.s t)
  | .m t i => E.same x (.m t i)
  | .mm t i n => E.same x (.mm t i n)
def E.hasIn (x : E) : List E → Bool
  | [] => false
  | a :: l => E.has x a || E.hasIn x l
end

/-- surely a value of one cell -/
def E.sure : E → Bool
  | .c v => v.one
  | .m .. | .bin .. | .eqv .. | .un .. | .conv .. | .len _ | .mn .. | .mx .. | .fld .. | .slc .. | .slcl .. | .app .. | .upd .. | .mk .. | .lit _ | .one _ | .mput .. | .mlen _ | .mclr _ => true
  | .ite _ a b => E.sure a && E.sure b
  | _ => false
/-- surely one of so many -/
def E.sized (n : Nat) : E → Bool
  | .mm _ _ k => k == n
  | .flds _ _ k => k == n
  | .ag l => l.length == n && l.all E.sure
  | .sz _ k => k == n
  | _ => false
def oneE (e : E) : E := if e.sure then e else .one e
def szE (e : E) (n : Nat) : E := if e.sized n then e else .sz e n
/-- a value of a type: of its cells -/
def tyE (ag : Bool) (n : Nat) (e : E) : E := if ag then szE e n else oneE e

/-! ### Types, as far as they are asked -/
inductive TD where
  | sc | sl (e : TypeId) | st (fs : List (Nat × Nat × Bool × Bool)) | ar (n : Nat) (e : TypeId) | pt (e : TypeId) | no
  deriving DecidableEq, Inhabited
def cellV : Value → Option V
  | .int k n => some (.int k n)
  | .bool b => some (.bool b)
  | .string s => some (.str s)
  | .slice none 0 0 => some (.sl [])
  | .func (.func f) first captured => if first.size = 0 ∧ captured.size = 0 then some (.fn f) else none
  | .map none => some (.mp 0 [] [])
  | _ => none
def isAggT (P : Program) (t : TypeId) : Bool :=
  match P.underlying t with
  | some (.struct _) | some (.array _ _) => true
  | _ => false
/-- no slice, pointer or the like in its zero value: what is read as such a type shares no memory -/
def zeroCells (P : Program) (t : TypeId) : Option (List V) :=
  ((P.info? t).bind (·.zero)).bind fun z => z.cells.toList.mapM cellV
def flatT (P : Program) (t : TypeId) : Bool :=
  match P.underlying t with
  | some .bool | some (.int _) | some .string => true
  | some (.struct _) | some (.array _ _) => match zeroCells P t with | some l => l.all V.flatc | none => false
  | some (.tuple ts) => ts.all fun u => match P.underlying u with
    | some .bool | some (.int _) | some .string => true
    | some (.struct _) | some (.array _ _) => (match zeroCells P u with | some l => l.all V.flatc | none => false)
    | _ => false
  | _ => false

def okT (P : Program) (T : TypeId) : Bool := (P.underlying T).isSome && (P.info? T).isSome
def tdOf (P : Program) (t : TypeId) : TD :=
  match P.underlying t with
  | some .bool | some (.int _) | some .string => .sc
  | some (.slice e) => .sl e
  | some (.struct fs) => if fs.toList.all (fun f => okT P f.type) then .st (fs.toList.map fun f => (f.offset, P.cellsOf f.type, isAggT P f.type, flatT P f.type)) else .no
  | some (.array n e) => .ar n e
  | some (.pointer e) => .pt e
  | _ => .no
/-- an element's type of which lists may be made -/
def elOk (P : Program) (el : TypeId) : Bool :=
  match P.info? el with
  | some i => match i.zero with
    | some z => z.cells.size == i.size && decide (0 < i.size) && decide (i.bytes ≤ 32768)
    | none => false
  | none => false

/-! ### Kinds -/
inductive CK where
  | fz | own (ty : TypeId) | nil | dead
  deriving DecidableEq, Inhabited
inductive OT where
  | fz | own (ty : TypeId) | nil | mem (l : List CK) | clo (f : FuncId) (caps : List Nat)
  deriving DecidableEq, Inhabited
inductive TK where
  | no
  | val (e : E) (sh : List Nat)
  | own (ty : TypeId) (e : E)
  | nil
  | mem (cs : List (CK × E))
  | ags (cs : List (CK × E))
  | ref (p : Nat)
  | refm (p i : Nat)
  | pm (p o : Nat)
  | pc (e : E) (o : Nat) (sh : List Nat)
  | pe (p : Nat) (i : Option Nat) (j : E) (o k : Nat)
  | pa (p o : Nat) (j : E) (n k : Nat)
  | clo (f : FuncId) (caps : List Nat)
  deriving Inhabited
def TK.isNo : TK → Bool
  | .no => true
  | _ => false
abbrev Conds := List (Nat × Bool)
abbrev Gam := List (Nat × Conds × TK)
def Gam.at (g : Gam) (t : Nat) : Conds × TK :=
  match g with
  | [] => ([], .no)
  | (u, x) :: r => if u = t then x else Gam.at r t
def memOf (g : Gam) (p : Nat) : Option (List (CK × E)) :=
  match g.at p with
  | ([], .mem cs) => some cs
  | _ => none
def ownOf (g : Gam) (p : Nat) : Option (TypeId × E) :=
  match g.at p with
  | ([], .own ty e) => some (ty, e)
  | _ => none
def condsIn (a b : Conds) : Bool := a.all fun x => b.contains x
/-- the kind of a temporary, where so much is known -/
def look (g : Gam) (C : Conds) (t : Nat) : TK := let x := g.at t; if condsIn x.1 C then x.2 else .no

def anyOwn (cs : List (CK × E)) : Bool := cs.any fun c => match c.1 with | .own _ => true | _ => false
def anyDead (cs : List (CK × E)) : Bool := cs.any fun c => c.1 == .dead
/-- the list of the call's own that a kind leads to -/
def ownAt (g : Gam) : TK → Option (TypeId × E)
  | .ref p => ownOf g p
  | .refm p i => (memOf g p).bind fun cs => match cs[i]? with
    | some (.own ty, e) => some (ty, e)
    | _ => none
  | _ => none
/-- the expression of what an operand holds, and with whose memory it shares -/
def asE (g : Gam) (k : TK) (t : Nat) : Option (E × List Nat) :=
  match k with
  | .val e sh => some (e, sh)
  | .own _ e => some (e, [t])
  | .nil => some (.c (.sl []), [])
  | .ags cs => if anyDead cs then none else some (.ag (cs.map (·.2)), if anyOwn cs then [t] else [])
  | .ref p => (ownAt g (.ref p)).map fun x => (x.2, [p])
  | .refm p i => (ownAt g (.refm p i)).map fun x => (x.2, [p])
  | _ => none
def opK (g : Gam) (C : Conds) (x : Operand) : TK :=
  match x with
  | .const (.slice none 0 0) => .nil
  | .const v => match cellV v with | some x => .val (.c x) [] | none => .no
  | .tmp t => look g C t
  | .func f => .val (.c (.fn f)) []
  | _ => .no
def opTmp : Operand → Nat
  | .tmp t => t
  | _ => 0
def opE (g : Gam) (C : Conds) (x : Operand) : Option (E × List Nat) :=
  asE g (opK g C x) (match x with | .tmp t => t | _ => 0)
/-- a value of a type without lists shares with nobody -/
def flE (fl : Bool) (b : E × List Nat) : E × List Nat := if b.2.isEmpty then b else if fl then (.fl b.1, []) else b
def opsF (g : Gam) (C : Conds) (fl : Bool) : List Operand → Option (List E × List Nat)
  | [] => some ([], [])
  | x :: l => (opE g C x).bind fun a0 => (opsF g C fl l).map fun b => let a := flE fl a0; (a.1 :: b.1, a.2 ++ b.2)
/-- a call's arguments: what each shares with -/
def argsE (P : Program) (g : Gam) (C : Conds) : List Operand → List TypeId → Option (List E × List Nat)
  | [], _ => some ([], [])
  | x :: l, ts => (opE g C x).bind fun a0 => (argsE P g C l ts.tail).map fun b => let a := flE (match ts with | t :: _ => flatT P t | [] => false) a0; (a.1 :: b.1, a.2 ++ b.2)
/-- the cells of a variable from i on, as they were when the region began? -/
def plainRun (p : Nat) : Nat → List (CK × E) → Bool
  | _, [] => true
  | i, (_, .m q j) :: r => p == q && i == j && plainRun p (i + 1) r
  | _, _ => false

def valE : TK → List E
  | .val e _ => [e]
  | _ => []

structure Ctx where
  P : Program
  ix : Nat → Nat
  own : Nat → Bool
  fresh : FuncId → Bool
  sig : FuncId → Option (List OT)
  tr : List Nat
  n : Nat

/-- what a load of type T out of a variable tells -/
def loadM (c : Ctx) (g : Gam) (T : TypeId) (p o : Nat) : Option TK :=
  (memOf g p).bind fun cs =>
    if isAggT c.P T then
      let part := (cs.drop o).take (c.P.cellsOf T)
      if part.length = c.P.cellsOf T ∧ anyDead part = false ∧ 0 < c.P.cellsOf T then
        some (.val (if plainRun (c.ix p) o part then .mm (c.ix p) o part.length else .ag (part.map (·.2))) (if anyOwn part then [p] else []))
      else none
    else match cs[o]? with
      | some (.fz, e) => some (.val e [])
      | some (.own _, _) => some (.refm p o)
      | some (.nil, _) => some .nil
      | _ => none
/-- out of an array, at an index -/
def loadA (c : Ctx) (g : Gam) (T : TypeId) (p o : Nat) (j : E) (m k : Nat) : Option TK :=
  (memOf g p).bind fun cs =>
    let part := (cs.drop o).take (m * k)
    if part.length = m * k ∧ c.P.cellsOf T = k ∧ 0 < m * k ∧ anyOwn part = false ∧ anyDead part = false then
      some (.val (.ai (if plainRun (c.ix p) o part then .mm (c.ix p) o part.length else .ag (part.map (·.2))) j m k (isAggT c.P T)) [])
    else none
def cellsE (c : Ctx) (T : TypeId) (e : E) (o : Nat) : E := if isAggT c.P T then .flds e o (c.P.cellsOf T) else .fld e o
/-- out of a list of the call's own -/
def placeK (p : Nat) : Option Nat → TK
  | none => .ref p
  | some i => .refm p i
def loadE (c : Ctx) (g : Gam) (T : TypeId) (p : Nat) (i : Option Nat) (j : E) (o k : Nat) : Option TK :=
  (ownAt g (placeK p i)).bind fun x => if c.P.cellsOf x.1 = k then some (.val (cellsE c T (.idx x.2 j k) o) [p]) else none
/-- what a load of type T through a pointer of a kind tells -/
def loadK (c : Ctx) (g : Gam) (T : TypeId) (k : TK) (t : Nat) : Option TK :=
  match k with
  | .mem _ => loadM c g T t 0
  | .pm p o => loadM c g T p o
  | .pc e o sh => some (.val (cellsE c T e o) sh)
  | .val e sh => some (.val (cellsE c T (.star e) 0) sh)
  | .pe p i j o k => loadE c g T p i j o k
  | .pa p o j m k => loadA c g T p o j m k
  | _ => none

def fieldOf (P : Program) (T : TypeId) (f : Nat) : Option (Nat × Nat × Bool × Bool) :=
  match tdOf P T with
  | .st fs => fs[f]?
  | _ => none

abbrev PK := Option (TK × List E)
/-- kinds that may stand in any slot -/
def TK.free : TK → Bool
  | .own .. | .mem _ | .ags _ | .no => false
  | _ => true
def pkMove (g : Gam) (C : Conds) (x : Operand) : PK :=
  if (opK g C x).free then some (opK g C x, []) else
  match x, opK g C x with
  | .tmp t, .own _ _ => some (.ref t, [])
  | .tmp t, .mem _ => some (.pm t 0, [])
  | .tmp t, .ags cs => (asE g (.ags cs) t).map fun y => (.val y.1 y.2, [])
  | _, _ => none
def pkNilCheck (g : Gam) (C : Conds) (x : Operand) : PK :=
  match opK g C x with
  | .mem _ => some (.pm (opTmp x) 0, [])
  | .pm p o => some (.pm p o, [])
  | .val e sh => some (.val e sh, [])
  | _ => none
def pkAssign (c : Ctx) (g : Gam) (C : Conds) (ty : TypeId) (x : Operand) : PK :=
  match opK g C x with
  | .val e [] => some (.val e [], [])
  | .val e (p :: sh) => if flatT c.P ty then some (.val (.fl e) [], [.fl e]) else none
  | .nil => some (.nil, [])
  | .clo f caps => some (.clo f caps, [])
  | _ => none
def pkAlloc (c : Ctx) (T : TypeId) : PK :=
  (zeroCells c.P T).bind fun z => if z.isEmpty then none else some (.mem (z.map fun x => ((match x with | .sl _ => CK.nil | _ => .fz), E.c x)), [])
def pkBox (c : Ctx) (g : Gam) (C : Conds) (T : TypeId) (x : Operand) : PK :=
  match opK g C x with
  | .val e0 [] =>
    if okT c.P T then
      let e := tyE (isAggT c.P T) (c.P.cellsOf T) e0
      if isAggT c.P T then some (.mem ((List.range (c.P.cellsOf T)).map fun i => (CK.fz, E.fld e i)), [e]) else some (.mem [(.fz, e)], [e])
    else none
  | _ => none
/-- how '==' of a type is told -/
def eqTy (P : Program) (T : TypeId) : Bool :=
  match P.underlying T with
  | some .bool => true
  | _ => false
def binE (P : Program) (T : TypeId) (op : BinOp) (a b : E) : E :=
  if eqTy P T then match op with
    | .eql => .eqv false a b
    | .neq => .eqv true a b
    | _ => .bin op a b
  else .bin op a b
def pkBin (c : Ctx) (g : Gam) (C : Conds) (op : BinOp) (T : TypeId) (x y : Operand) : PK :=
  (opE g C x).bind fun a => (opE g C y).map fun b => let e := binE c.P T op a.1 b.1; (.val e [], [e])
def pkUn (g : Gam) (C : Conds) (op : UnOp) (x : Operand) : PK := (opE g C x).map fun a => (.val (.un op a.1) [], [.un op a.1])
def pkConv (c : Ctx) (g : Gam) (C : Conds) (src dst : TypeId) (x : Operand) : PK :=
  if (c.P.underlying src).isNone then none else
  match c.P.underlying dst with
  | some (.int k) => (opE g C x).map fun a => (.val (.conv k a.1) [], [.conv k a.1])
  | _ => none
def pkExt (c : Ctx) (g : Gam) (C : Conds) (ty : TypeId) (x : Operand) (i : Nat) : PK :=
  (opE g C x).map fun a => let y := flE (flatT c.P ty) (.ext a.1 i, a.2); (.val y.1 y.2, [y.1])
def pkLoad (c : Ctx) (g : Gam) (C : Conds) (T : TypeId) (a : Operand) : PK :=
  if okT c.P T then (loadK c g T (opK g C a) (opTmp a)).map fun k => (k, valE k) else none
def pkField (c : Ctx) (g : Gam) (C : Conds) (T : TypeId) (a : Operand) (f : Nat) : PK :=
  (fieldOf c.P T f).bind fun x => if x.2.1 = 0 then none else
    match opK g C a with
    | .mem _ => some (.pm (opTmp a) x.1, [])
    | .pm p q => some (.pm p (q + x.1), [])
    | .pc e q sh => some (.pc e (q + x.1) sh, [])
    | .val e sh => some (.pc (.star e) x.1 sh, [.star e])
    | .pe p i j q k => some (.pe p i j (q + x.1) k, [])
    | _ => none
def indexOwn (c : Ctx) (g : Gam) (p : Nat) (i : Option Nat) (el : TypeId) (j : E) : PK :=
  (ownAt g (placeK p i)).bind fun x => if c.P.cellsOf x.1 = c.P.cellsOf el ∧ okT c.P el = true then some (.pe p i j 0 (c.P.cellsOf el), [.idx x.2 j (c.P.cellsOf el)]) else none
def pkIndexAddr (c : Ctx) (g : Gam) (C : Conds) (T : TypeId) (x i : Operand) : PK :=
  match tdOf c.P T with
  | .sl el => (opE g C i).bind fun j =>
    match opK g C x with
    | .ref p => indexOwn c g p none el j.1
    | .refm p q => indexOwn c g p (some q) el j.1
    | .val e sh => if okT c.P el then some (.pc (.idx e j.1 (c.P.cellsOf el)) 0 sh, [.idx e j.1 (c.P.cellsOf el)]) else none
    | _ => none
  | .ar n el => if !okT c.P el then none else (opE g C i).bind fun j =>
    match opK g C x with
    | .mem _ => some (.pa (opTmp x) 0 j.1 n (c.P.cellsOf el), [.ai (.c (.agg (List.replicate n (.bool true)))) j.1 n 1 false])
    | .pm p o => some (.pa p o j.1 n (c.P.cellsOf el), [.ai (.c (.agg (List.replicate n (.bool true)))) j.1 n 1 false])
    | _ => none
  | _ => none
def pkFld (c : Ctx) (g : Gam) (C : Conds) (T : TypeId) (x : Operand) (f : Nat) : PK :=
  (fieldOf c.P T f).bind fun y => if y.2.1 = 0 then none else (opE g C x).map fun a =>
    let e := if y.2.2.1 then E.flds (.isag a.1) y.1 y.2.1 else .fld (.isag a.1) y.1
    (.val e a.2, [e])
def pkIndex (c : Ctx) (g : Gam) (C : Conds) (T : TypeId) (x i : Operand) : PK :=
  match tdOf c.P T with
  | .ar n el => if !okT c.P el then none else (opE g C x).bind fun a => (opE g C i).map fun b =>
    let e := E.ai a.1 b.1 n (c.P.cellsOf el) (isAggT c.P el)
    (.val e a.2, [e])
  | _ => none
def opLo (g : Gam) (C : Conds) : Option Operand → Option E
  | some l => (opE g C l).map Prod.fst
  | none => some (.c (.int .i64 0))
def opHi (g : Gam) (C : Conds) (a l : E) (k : Nat) : Option Operand → Option E
  | some h => (opE g C h).map fun y => .slc a l y.1 k
  | none => some (.slcl a l k)
def pkSlice (c : Ctx) (g : Gam) (C : Conds) (T : TypeId) (x : Operand) (lo hi : Option Operand) : PK :=
  match tdOf c.P T with
  | .sl el => if okT c.P el then (opE g C x).bind fun a =>
    (opLo g C lo).bind fun l => (opHi g C a.1 l (c.P.cellsOf el) hi).map fun e => (.val e a.2, [e]) else none
  | _ => none
/-- the cells of a struct's parts: what kind each is -/
def partCells (g : Gam) (C : Conds) (n : Nat) (ag fl : Bool) (x : Operand) : Option (List (CK × E) × List Nat × List Nat) :=
  match x, opK g C x with
  | .tmp t, .own ty e => some ([(.own ty, e)], [], [t])
  | _, .nil => some ([(.nil, .c (.sl []))], [], [])
  | _, _ => (opE g C x).map fun a0 => let a := flE fl a0; let e := tyE ag n a.1; (if ag then (List.range n).map fun j => (.fz, .fld e j) else [(.fz, e)], a.2, [])
abbrev BC := List (CK × E) × List Nat × List Nat
def zeroPart (zs : List V) (o n : Nat) : BC := (((zs.drop o).take n).map fun (z : V) => ((match z with | .sl _ => CK.nil | _ => CK.fz), E.c z), [], [])
def partOr (g : Gam) (C : Conds) (zs : List V) (parts : List (Nat × Operand)) (f : Nat × Nat × Bool × Bool) (i : Nat) : Option BC :=
  match parts.find? (fun p => p.1 == i) with
  | some p => partCells g C f.2.1 f.2.2.1 f.2.2.2 p.2
  | none => some (zeroPart zs f.1 f.2.1)
def nodupB : List Nat → Bool
  | [] => true
  | x :: l => !l.contains x && nodupB l
def buildFrom (g : Gam) (C : Conds) (zs : List V) (parts : List (Nat × Operand)) : List (Nat × Nat × Bool × Bool) → Nat → Nat → Option BC
  | [], _, o => if o = zs.length then some ([], [], []) else none
  | f :: r, i, o => (partOr g C zs parts f i).bind fun a => if f.1 = o ∧ a.1.length = f.2.1 ∧ f.2.1 ≠ 0 then (buildFrom g C zs parts r (i + 1) (o + f.2.1)).map fun b => (a.1 ++ b.1, a.2.1 ++ b.2.1, a.2.2 ++ b.2.2) else none
def buildCells (g : Gam) (C : Conds) (zs : List V) (parts : List (Nat × Operand)) (fs : List (Nat × Nat × Bool × Bool)) : Option BC :=
  if nodupB (parts.map (·.1)) && parts.all (fun p => decide (p.1 < fs.length)) then buildFrom g C zs parts fs 0 0 else none
def allFz (cs : List (CK × E)) : Bool := cs.all fun c => c.1 == .fz
/-- aggregates of which no part is a list of the call's own -/
def pkBuild (c : Ctx) (g : Gam) (C : Conds) (T : TypeId) (parts : List (Nat × Operand)) : PK :=
  match tdOf c.P T with
  | .st fs => (zeroCells c.P T).bind fun zs => (buildCells g C zs parts fs).bind fun b =>
    if b.2.2.isEmpty then
      let e := E.ag (b.1.map (·.2))
      if b.2.1.isEmpty && !allFz b.1 then some (.ags b.1, [e]) else some (.val e b.2.1, [e])
    else none
  | _ => none
def ownOr (c : Ctx) (dst : Option Nat) (el : TypeId) (e : E) (sh : List Nat) : PK :=
  match dst with
  | some d => if c.own d && sh.isEmpty then some (.own el e, [e]) else some (.val e sh, [e])
  | none => none
def pkBuildSlice (c : Ctx) (g : Gam) (C : Conds) (dst : Option Nat) (T : TypeId) (n : Nat) (parts : List (Nat × Operand)) : PK :=
  match tdOf c.P T with
  | .sl el => (opsF g C (flatT c.P el) (parts.map (·.2))).bind fun es =>
    if parts.map (·.1) = List.range n ∧ n < 256 ∧ c.P.cellsOf el < 256 ∧ elOk c.P el = true ∧ (isAggT c.P el = true ∨ c.P.cellsOf el = 1) then ownOr c dst el (.lit (es.1.map (tyE (isAggT c.P el) (c.P.cellsOf el)))) es.2 else none
  | _ => none
def sameOp : Operand → Operand → Bool
  | .tmp t, .tmp u => t == u
  | .const (.int _ x), .const (.int _ y) => x == y
  | _, _ => false
def pkMake (c : Ctx) (g : Gam) (C : Conds) (dst : Option Nat) (T : TypeId) (n m : Operand) : PK :=
  match tdOf c.P T with
  | .sl el => (zeroCells c.P el).bind fun z => (opE g C n).bind fun a =>
    if sameOp n m && elOk c.P el && (isAggT c.P el || z.length == 1) then ownOr c dst el (.mk (if isAggT c.P el then .agg z else z.headD (.agg [])) a.1) [] else none
  | _ => none
def pkLen (c : Ctx) (g : Gam) (C : Conds) (T : TypeId) (x : Operand) : PK :=
  match c.P.underlying T with
  | some (.slice _) => (opE g C x).map fun a => (.val (.len a.1) [], [.len a.1])
  | some (.array n _) => some (.val (.c (.int .i64 n)) [], [])
  | some (.map _ _) => (opE g C x).map fun a => (.val (.mlen a.1) [], [.mlen a.1])
  | _ => none
/-- a function's value: of what it has captured, the variables' slots -/
def capsOf (g : Gam) (C : Conds) : List Operand → Option (List Nat)
  | [] => some []
  | x :: l => match x, opK g C x with
    | .tmp t, .mem _ => (capsOf g C l).map (t :: ·)
    | _, _ => none
def pkMakeFunc (g : Gam) (C : Conds) (f : Go.Fn) (first captured : List Operand) : PK :=
  match f, first, captured with
  | .func f, [], [] => some (.val (.c (.fn f)) [], [])
  | .func f, [], l => (capsOf g C l).map fun ts => (.clo f ts, [])
  | _, _, _ => none
/-- keys that are numbers, bools or texts -/
def kcOf (P : Program) (t : TypeId) : Option KC :=
  match P.underlying t with
  | some .bool => some .b
  | some (.int k) => some (.i k)
  | some .string => some .s
  | _ => none
/-- a type's zero value -/
def zeroV (P : Program) (t : TypeId) : Option V :=
  ((P.info? t).bind (·.zero)).bind fun z => match z with
    | .agg cs => (cs.toList.mapM cellV).map .agg
    | v => cellV v
def isMapT (P : Program) (t : TypeId) : Bool :=
  match P.underlying t with
  | some (.map _ _) => true
  | _ => false
def pkMakeMap (c : Ctx) (T : TypeId) : PK := if isMapT c.P T then some (.own T (.c (.mp 0 [] [])), []) else none
def pkLookup (c : Ctx) (g : Gam) (C : Conds) (T : TypeId) (x k : Operand) (ok : Bool) : PK :=
  match c.P.underlying T with
  | some (.map kt el) => (kcOf c.P kt).bind fun kc => (zeroV c.P el).bind fun z => (opE g C x).bind fun a => (opE g C k).map fun b =>
      let e := E.lk kc a.1 b.1 z ok
      (.val e a.2, [e])
  | _ => none
def pkMM (g : Gam) (C : Conds) (mx : Bool) (x y : Operand) : PK :=
  (opE g C x).bind fun a => (opE g C y).map fun b => let e := if mx then E.mx a.1 b.1 else .mn a.1 b.1; (.val e [], [e])
/-- elements that are copied: those without lists share with nobody -/
def elemsE (fl : Bool) (b : E × List Nat) : E × List Nat := if b.2.isEmpty then b else if fl then (.fls b.1, []) else b
def pkAppend (c : Ctx) (g : Gam) (C : Conds) (dst : Option Nat) (T U : TypeId) (x y : Operand) : PK :=
  match tdOf c.P T with
  | .sl el => if T = U ∧ elOk c.P el = true then
      match opK g C x with
      | .nil => (opE g C y).bind fun b =>
        let y := elemsE (flatT c.P el) b
        if (match dst with | some d => c.own d | none => false) && !y.2.isEmpty then none else ownOr c dst el (.app (.c (.sl [])) y.1 (c.P.cellsOf el)) y.2
      | _ => none
    else none
  | _ => none
/-- an operation that writes nothing but its own temporary: what that is then, and what must have a value -/
def pk (c : Ctx) (g : Gam) (C : Conds) (o : Oper) : PK :=
  match o.op with
  | .move x => pkMove g C x
  | .nilCheck x => pkNilCheck g C x
  | .assign x => pkAssign c g C o.type x
  | .alloc T => pkAlloc c T
  | .box T x => pkBox c g C T x
  | .binOp op T x y _ => pkBin c g C op T x y
  | .unOp op _ x => pkUn g C op x
  | .convert src dst x => pkConv c g C src dst x
  | .extract x i => pkExt c g C o.type x i
  | .load T a => pkLoad c g C T a
  | .fieldAddr T a f => pkField c g C T a f
  | .indexAddr T x i => pkIndexAddr c g C T x i
  | .field T x f => pkFld c g C T x f
  | .index T x i => pkIndex c g C T x i
  | .slice T x lo hi none => pkSlice c g C T x lo hi
  | .build T parts => pkBuild c g C T parts.toList
  | .buildSlice T n parts => pkBuildSlice c g C o.dst T n parts.toList
  | .makeSlice T n m => pkMake c g C o.dst T n m
  | .makeFunc f first captured => pkMakeFunc g C f first.toList captured.toList
  | .makeMap T none => pkMakeMap c T
  | .lookup T x k ok => pkLookup c g C T x k ok
  | .call { callee := .builtin .len, args, argTypes } => match args.toList, argTypes.toList with
    | [x], [T] => pkLen c g C T x
    | _, _ => none
  | .call { callee := .builtin .min, args, .. } => match args.toList with
    | [x, y] => pkMM g C false x y
    | _ => none
  | .call { callee := .builtin .max, args, .. } => match args.toList with
    | [x, y] => pkMM g C true x y
    | _ => none
  | .call { callee := .builtin .append, args, argTypes } => match args.toList, argTypes.toList with
    | [x, y], [T, U] => pkAppend c g C o.dst T U x y
    | _, _ => none
  | _ => none
/-! ### A region -/
/-- what is called: a function, or one that a value tells -/
inductive FN where
  | id (f : FuncId)
  | e (x : E)
  deriving Inhabited
def FN.es : FN → List E
  | .id _ => []
  | .e x => [x]
inductive EF where
  | lt (i : Nat) (C : Conds) (e : E)
  | call (i : Nat) (C : Conds) (f : FuncId) (fr fl : Bool) (args : List E)
  | callm (i : Nat) (C : Conds) (f : FN) (ks : List OT) (args : List E)
  deriving Inhabited
inductive OV where
  | v (e : E)
  | m (l : List E)
  | no
  deriving Inhabited
structure Reg where
  efs : List EF
  chks : List (Conds × E)
  outs : List (Nat × OV)
  deriving Inhabited

/-- what one operation does to the kinds: the new entries; the slots whose value or memory it turns; those whose first block is another one; those that nobody writes any more -/
structure OS where
  d : Gam
  ps : List Nat
  rb : List Nat
  fz : List Nat
  efs : List EF
  chks : List (Conds × E)
  deriving Inhabited

def frzCK : CK → CK
  | .own _ => .fz
  | k => k
def freezeK : TK → TK
  | .own _ e => .val e []
  | .ags cs => if anyDead cs then .no else .val (.ag (cs.map (·.2))) []
  | .mem cs => .mem (cs.map fun c => (frzCK c.1, c.2))
  | k => k
def intoOne (fz : List Nat) : TK → Bool
  | .pe q _ _ _ _ => fz.contains q
  | _ => false
def touches (p : Nat) : TK → Bool
  | .val _ sh => sh.contains p
  | .ref q => p == q
  | .refm q _ => p == q
  | .pc _ _ sh => sh.contains p
  | .pe q _ _ _ _ => p == q
  | _ => false
/-- an address that is another one if the slot p holds another variable -/
def leads (p : Nat) : TK → Bool
  | .pa q _ _ _ _ => p == q
  | .pm q _ => p == q
  | .clo _ caps => caps.contains p
  | _ => false
/-- what stays as it is -/
def calm (ps rb fz : List Nat) (k : TK) : Bool := !(ps.any fun p => touches p k) && !(rb.any fun p => leads p k) && !intoOne fz k
/-- what is not known any more -/
def killD (ps rb fz : List Nat) (g : Gam) : Gam := g.filterMap fun x => if calm ps rb fz x.2.2 then none else some (x.1, [], .no)
def freezeD (fz : List Nat) (g : Gam) : Gam := fz.map fun p => (p, (g.at p).1, freezeK (g.at p).2)
/-- as it is seen when those are written no more -/
def frz (fz : List Nat) (g : Gam) : Gam := killD [] [] fz g ++ freezeD fz g ++ g
def domOf (g : Gam) : List Nat := g.map (·.1)
structure MS where
  d : Gam
  ps : List Nat
  rb : List Nat
  fz : List Nat
  es : List E
  deriving Inhabited
/-- a value that is kept -/
def keepE (g : Gam) (fl : Bool) (x : Operand) : Option (E × List Nat) := (opE g [] x).map fun a0 => flE fl a0
def setRange (cs : List (CK × E)) (o : Nat) (new : List (CK × E)) : List (CK × E) := cs.take o ++ new ++ cs.drop (o + new.length)
/-- the cells of a variable, some of them new -/
def putM (g : Gam) (p o : Nat) (new : List (CK × E)) : Option TK :=
  (memOf g p).bind fun cs => if o + new.length ≤ cs.length then some (.mem (setRange cs o new)) else none
/-- a list that a result takes over from a variable -/
def handOver (c : Ctx) (g : Gam) (d : Nat) : TK → Option (Nat × TypeId × E)
  | .ref p => if c.tr.contains d && p != d then (ownOf g p).map fun y => (p, y.1, y.2) else none
  | _ => none
/-! Operations that turn more than their own temporary -/
def mkAssign (c : Ctx) (g : Gam) (ty : TypeId) (d : Nat) (x : Operand) : Option MS :=
  match x, opK g [] x with
  | .tmp t, .own ty e => if t = d ∨ (g.at t).1 ≠ [] then none else some { d := [(d, [], .own ty e), (t, [], .no)], ps := [d, t], rb := [d, t], fz := [], es := [] }
  | _, .nil => some { d := [(d, [], .nil)], ps := [d], rb := [d], fz := [], es := [] }
  | _, k => match handOver c g d k with
    | some (p, ty, e) => some { d := [(d, [], .own ty e), (p, [], .no)], ps := [d, p], rb := [d, p], fz := [], es := [] }
    | none => (keepE g (flatT c.P ty) x).map fun a => { d := [(d, [], .val a.1 [])], ps := [d], rb := [d], fz := a.2, es := [a.1] }
def mkStoreM (c : Ctx) (g : Gam) (T : TypeId) (p o : Nat) (x : Operand) : Option MS :=
  let n := c.P.cellsOf T
  if isAggT c.P T then
    match x, opK g [] x with
    | .tmp t, .ags cs => if cs.length = n ∧ t ≠ p ∧ (g.at t).1 = [] then (putM g p o cs).map fun k => { d := [(p, [], k), (t, [], .no)], ps := [p, t], rb := [t], fz := [], es := [] } else none
    | _, _ => (keepE g (flatT c.P T) x).bind fun a => let e := tyE true n a.1; (putM (frz a.2 g) p o ((List.range n).map fun j => (CK.fz, E.fld e j))).map fun k => { d := [(p, [], k)], ps := [p], rb := [], fz := a.2, es := [e] }
  else match x, opK g [] x with
    | .tmp t, .own ty e => if t ≠ p ∧ (g.at t).1 = [] then (putM g p o [(.own ty, e)]).map fun k => { d := [(p, [], k), (t, [], .no)], ps := [p, t], rb := [t], fz := [], es := [] } else none
    | _, .nil => (putM g p o [(.nil, .c (.sl []))]).map fun k => { d := [(p, [], k)], ps := [p], rb := [], fz := [], es := [] }
    | _, _ => (keepE g (flatT c.P T) x).bind fun a => let e := oneE a.1; (putM (frz a.2 g) p o [(.fz, e)]).map fun k => { d := [(p, [], k)], ps := [p], rb := [], fz := a.2, es := [e] }
def mkStoreE (c : Ctx) (g : Gam) (T : TypeId) (p : Nat) (i : Option Nat) (j : E) (o k : Nat) (x : Operand) : Option MS :=
  (keepE g (flatT c.P T) x).bind fun a => let e := tyE (isAggT c.P T) (c.P.cellsOf T) a.1; let g := frz a.2 g
    if a.2.contains p then none else
    match i with
    | none => (ownOf g p).bind fun x => let e' := E.upd x.2 j o e; if c.P.cellsOf x.1 = k then some { d := [(p, [], .own x.1 e')], ps := [p], rb := [], fz := a.2, es := [e'] } else none
    | some q => (memOf g p).bind fun cs => match cs[q]? with
      | some (.own ty, e0) => let e' := E.upd e0 j o e; if c.P.cellsOf ty = k then (putM g p q [(.own ty, e')]).map fun k => { d := [(p, [], k)], ps := [p], rb := [], fz := a.2, es := [e'] } else none
      | _ => none
def mkStoreA (c : Ctx) (g : Gam) (T : TypeId) (p o : Nat) (j : E) (n k : Nat) (x : Operand) : Option MS :=
  (keepE g (flatT c.P T) x).bind fun a1 => let a := (tyE (isAggT c.P T) (c.P.cellsOf T) a1.1, a1.2); if !a.2.isEmpty || c.P.cellsOf T ≠ k then none else
    (memOf g p).bind fun cs =>
      let part := (cs.drop o).take (n * k)
      if part.length = n * k ∧ part.all (fun x => x.1 == .fz) then
        let e' := E.aput (if plainRun (c.ix p) o part then .mm (c.ix p) o (n * k) else .ag (part.map (·.2))) j n k a.1
        (putM g p o ((List.range (n * k)).map fun i => (CK.fz, E.fld e' i))).map fun k => { d := [(p, [], k)], ps := [p], rb := [], fz := [], es := [e'] }
      else none
def mkBuild (c : Ctx) (g : Gam) (d : Nat) (T : TypeId) (parts : List (Nat × Operand)) : Option MS :=
  match tdOf c.P T with
  | .st fs => (zeroCells c.P T).bind fun zs => (buildCells g [] zs parts fs).bind fun b =>
    let ts := b.2.2
    if ts.any (fun t => b.2.1.contains t || t == d || !(g.at t).1.isEmpty) || !nodupB ts then none else
    some { d := (d, [], .ags b.1) :: ts.map fun t => (t, [], .no), ps := d :: ts, rb := d :: ts, fz := b.2.1, es := [.ag (b.1.map (·.2))] }
  | _ => none
def mkStore (c : Ctx) (g : Gam) (T : TypeId) (a x : Operand) : Option MS :=
  if !okT c.P T || !(isAggT c.P T || c.P.cellsOf T == 1) then none else
  match opK g [] a with
  | .mem _ => mkStoreM c g T (opTmp a) 0 x
  | .pm p o => mkStoreM c g T p o x
  | .pe p i j o k => mkStoreE c g T p i j o k x
  | .pa p o j n k => mkStoreA c g T p o j n k x
  | _ => none
def mkAppend (c : Ctx) (g0 : Gam) (d : Nat) (T U : TypeId) (x y : Operand) : Option MS :=
  match tdOf c.P T with
  | .sl el => if T = U ∧ elOk c.P el = true then
      (opE g0 [] y).bind fun b0 =>
        let b := elemsE (flatT c.P el) b0
        let g := frz b.2 g0
        match x, opK g [] x with
        | _, .nil => let e' := E.app (.c (.sl [])) b.1 (c.P.cellsOf el); some { d := [(d, [], .own el e')], ps := [d], rb := [d], fz := b.2, es := [e'] }
        | .tmp t, .own ty e => if ty = el ∧ t ≠ d ∧ (g.at t).1 = [] then let e' := E.app e b.1 (c.P.cellsOf el); some { d := [(d, [], .own ty e'), (t, [], .no)], ps := [d, t], rb := [d, t], fz := b.2, es := [e'] } else none
        | _, .ref p => (ownOf g p).bind fun x => if x.1 = el ∧ p ≠ d then let e' := E.app x.2 b.1 (c.P.cellsOf el); some { d := [(d, [], .own x.1 e'), (p, [], .no)], ps := [d, p], rb := [d, p], fz := b.2, es := [e'] } else none
        | _, .refm p i => (memOf g p).bind fun cs => match cs[i]? with
          | some (.own ty, e) => if ty = el ∧ p ≠ d then let e' := E.app e b.1 (c.P.cellsOf el); (putM g p i [(.dead, .c (.sl []))]).map fun k => { d := [(d, [], .own ty e'), (p, [], k)], ps := [d, p], rb := [d], fz := b.2, es := [e'] } else none
          | _ => none
        | _, _ => none
    else none
  | _ => none
/-- a box that takes up a list or a map of the call's own -/
def mkBox (c : Ctx) (g : Gam) (d : Nat) (T : TypeId) (x : Operand) : Option MS :=
  match x, opK g [] x with
  | .tmp t, .own ty e => if t ≠ d ∧ (g.at t).1 = [] then some { d := [(d, [], .mem [(.own ty, e)]), (t, [], .no)], ps := [d, t], rb := [d, t], fz := [], es := [] } else none
  | _, _ => none
/-- where a map of the call's own stands -/
def mapAt (g : Gam) (x : Operand) : Option (Nat × Option Nat × TypeId × E) :=
  match x, opK g [] x with
  | .tmp t, .own ty e => if (g.at t).1 = [] then some (t, none, ty, e) else none
  | _, .ref p => (ownOf g p).map fun y => (p, none, y.1, y.2)
  | _, .refm p i => (memOf g p).bind fun cs => match cs[i]? with
    | some (.own ty, e) => some (p, some i, ty, e)
    | _ => none
  | _, _ => none
def putMap (g : Gam) (p : Nat) (i : Option Nat) (ty : TypeId) (e : E) : Option TK :=
  match i with
  | none => some (.own ty e)
  | some i => putM g p i [(.own ty, e)]
/-- a map is another one -/
def mkMap (g : Gam) (T : TypeId) (m : Operand) (f : E → E) : Option MS :=
  (mapAt g m).bind fun x => if x.2.2.1 = T then (putMap g x.1 x.2.1 T (f x.2.2.2)).map fun k => { d := [(x.1, [], k)], ps := [x.1], rb := [], fz := [], es := [f x.2.2.2] } else none
def mkMapUpdate (c : Ctx) (g : Gam) (T : TypeId) (m k v : Operand) : Option MS :=
  match c.P.underlying T with
  | some (.map kt _) => (kcOf c.P kt).bind fun kc => (opE g [] k).bind fun b => (opE g [] v).bind fun a => if !a.2.isEmpty then none else mkMap g T m fun e => .mput kc e b.1 a.1
  | _ => none
def mkClear (c : Ctx) (g : Gam) (T : TypeId) (m : Operand) : Option MS := if isMapT c.P T then mkMap g T m .mclr else none
def mk (c : Ctx) (g : Gam) (o : Oper) : Option MS :=
  match o.op, o.dst with
  | .assign x, some d => mkAssign c g o.type d x
  | .move x, some d => mkAssign c g o.type d x
  | .store T a x, none => mkStore c g T a x
  | .build T parts, some d => mkBuild c g d T parts.toList
  | .box T x, some d => mkBox c g d T x
  | .mapUpdate T m k v, none => mkMapUpdate c g T m k v
  | .call { callee := .builtin .clear, args, argTypes }, none => match args.toList, argTypes.toList with
    | [x], [T] => mkClear c g T x
    | _, _ => none
  | .call { callee := .builtin .append, args, argTypes }, some d => match args.toList, argTypes.toList with
    | [x, y], [T, U] => mkAppend c g d T U x y
    | _, _ => none
  | _, _ => none

/-- the conditions under which an operation runs -/
def condsOf (c : Ctx) (ops : Array Oper) (g : Gam) (o : Oper) : Option Conds :=
  match o.guard with
  | none => some []
  | some (j, want) => ((ops[j]?).bind (·.dst)).bind fun t => match g.at t with
    | (C, .val (.s u) []) => if u = c.ix t then some (C ++ [(t, want)]) else none
    | _ => none
def ixC (c : Ctx) (C : Conds) : Conds := C.map fun x => (c.ix x.1, x.2)
def pkPick (c : Ctx) (g : Gam) (C : Conds) (x a b : Operand) : PK :=
  match x, opK g C x with
  | .tmp t, .val (.s u) [] => if u ≠ c.ix t then none else (opE g (C ++ [(t, true)]) a).bind fun y => (opE g (C ++ [(t, false)]) b).map fun z =>
    let e := E.ite (.s (c.ix t)) y.1 z.1
    (.val e (y.2 ++ z.2), [e])
  | _, _ => none
def callOf (o : Oper) : Option (FuncId × List Operand × List TypeId) :=
  match o.op with
  | .call { callee := .value (.func f), args, argTypes } => some (f, args.toList, argTypes.toList)
  | _ => none
def ownedNow (g : Gam) (t : Nat) : Bool :=
  match (g.at t).2 with
  | .own .. | .mem _ => true
  | _ => false
def leadsTo : TK → List Nat
  | .ref p | .refm p _ | .pm p _ | .pe p _ _ _ _ | .pa p _ _ _ _ => [p]
  | .val _ sh | .pc _ _ sh => sh
  | .clo _ caps => caps
  | _ => []
def guardT (ops : Array Oper) (o : Oper) : List Nat :=
  match o.guard with
  | none => []
  | some (j, _) => ((ops[j]?).bind (·.dst)).toList
/-- the slots whose kinds an operation asks -/
def looks (ops : Array Oper) (g : Gam) (o : Oper) : List Nat :=
  let ts := (o.op.operands.toList.filterMap fun x => match x with | .tmp t => some t | _ => none) ++ guardT ops o ++ o.dst.toList
  let us := ts ++ ts.flatMap fun t => leadsTo (g.at t).2
  us ++ us.flatMap fun t => leadsTo (g.at t).2
def only (g : Gam) (R : List Nat) : Gam := R.map fun t => (t, g.at t)
def stepCall (c : Ctx) (g : Gam) (C : Conds) (ty : TypeId) (d : Nat) (f : FuncId) (args : List Operand) (ts : List TypeId) : Option OS :=
  if !(g.at d).2.isNo then none else (argsE c.P g C args ts).map fun as =>
    let fl := !as.2.isEmpty && !c.fresh f && flatT c.P ty
    { d := [(d, C, .val (.s (c.ix d)) (if fl || c.fresh f then [] else as.2))], ps := [d], rb := [d], fz := [], efs := [.call (c.ix d) (ixC c C) f (c.fresh f) fl as.1], chks := [] }
/-- what a call hands on: an operand, or a variable that a function has captured -/
inductive AP where
  | op (x : Operand) (ty : TypeId)
  | cap (p : Nat)
  deriving Inhabited
def leCK (P : Program) : CK → CK → Bool
  | .own a, .own b => a == b
  | .nil, .own a => decide (0 < P.cellsOf a)
  | .nil, .nil | .nil, .fz | .fz, .fz | .own _, .fz => true
  | _, .dead => true
  | _, _ => false
def leCKs (P : Program) : List CK → List CK → Bool
  | [], [] => true
  | a :: l, b :: r => leCK P a b && leCKs P l r
  | _, _ => false
/-- a variable's cells may be handed on -/
def okPass (P : Program) : List CK → List CK → Bool
  | [], [] => true
  | a :: l, b :: r => (a == b || (match a, b with | .nil, .own ty => decide (0 < P.cellsOf ty) | _, _ => false)) && okPass P l r
  | _, _ => false
def slotP (g : Gam) (C : Conds) : AP → Option Nat
  | .cap p => some p
  | .op (.tmp t) _ => match opK g C (.tmp t) with
    | .mem _ => some t
    | .pm p 0 => some p
    | _ => none
  | _ => none
def slotO (g : Gam) (C : Conds) : AP → Option Nat
  | .op (.tmp t) _ => match opK g C (.tmp t) with
    | .own _ _ => some t
    | .ref p => some p
    | _ => none
  | _ => none
/-- what is handed on, and from which slot -/
def passOne (c : Ctx) (g : Gam) (C : Conds) (k : OT) (x : AP) : Option (E × Option Nat) :=
  match k with
  | .fz => match x with
    | .op x ty => (opE g C x).bind fun a0 => let a := flE (flatT c.P ty) a0; if a.2.isEmpty then some (a.1, none) else none
    | .cap _ => none
  | .mem l => (slotP g C x).bind fun p => (memOf g p).bind fun cs =>
      if !anyDead cs && okPass c.P (cs.map (·.1)) l then some (.ag (cs.map (·.2)), some p) else none
  | .own ty => (slotO g C x).bind fun p => (ownOf g p).bind fun y => if y.1 = ty then some (y.2, some p) else none
  | _ => none
def passAll (c : Ctx) (g : Gam) (C : Conds) : List OT → List AP → Option (List (E × Option Nat))
  | [], [] => some []
  | k :: ks, x :: l => (passOne c g C k x).bind fun a => (passAll c g C ks l).map (a :: ·)
  | _, _ => none
/-- what a slot holds behind the call -/
def newK (i q : Nat) : OT → TK
  | .mem l => .mem (l.zipIdx.map fun x => (x.1, .fld (.ext (.s i) q) x.2))
  | .own ty => .own ty (.ext (.s i) q)
  | _ => .no
def outsM (i : Nat) : Nat → List OT → List (E × Option Nat) → Gam
  | q, k :: ks, (_, some p) :: l => (p, [], newK i q k) :: outsM i (q + 1) ks l
  | q, _ :: ks, (_, none) :: l => outsM i q ks l
  | _, _, _ => []
def stepCallM (c : Ctx) (g all : Gam) (C : Conds) (d : Nat) (fn : FN) (ks : List OT) (aps : List AP) : Option OS :=
  if !(g.at d).2.isNo then none else (passAll c g C ks aps).bind fun as =>
    let ps := as.filterMap (·.2)
    if !nodupB ps || ps.contains d then none else
    some { d := (d, C, .val (if ps.isEmpty then .s (c.ix d) else .ext (.s (c.ix d)) 0) []) :: outsM (c.ix d) 1 ks as ++ killD (d :: ps) [d] [] all, ps := d :: ps, rb := [d], fz := [],
           efs := [.callm (c.ix d) (ixC c C) fn ks (as.map (·.1))], chks := [] }
def apsOf (args : List Operand) (ts : List TypeId) : List AP :=
  match args, ts with
  | x :: l, t :: r => .op x t :: apsOf l r
  | x :: l, [] => .op x 0 :: apsOf l []
  | [], _ => []
def callMOf (c : Ctx) (g : Gam) (C : Conds) (o : Oper) : Option (FN × List OT × List AP) :=
  match o.op with
  | .call { callee := .value (.func f), args, argTypes } => (c.sig f).map fun ks => (.id f, ks, apsOf args.toList argTypes.toList)
  | .call { callee := .value (.tmp t), args, argTypes } => match opK g C (.tmp t) with
    | .clo f caps => (c.sig f).map fun ks => (.id f, ks, apsOf args.toList argTypes.toList ++ caps.map .cap)
    | .val e _ => some (.e e, args.toList.map fun _ => .fz, apsOf args.toList argTypes.toList)
    | _ => none
  | _ => none
def dstOwned (g : Gam) (o : Oper) : Bool := match o.dst with | some d => ownedNow g d | none => true
def dstOld (g : Gam) (o : Oper) : Bool := match o.dst with | some d => !(g.at d).2.isNo | none => true
def dstIn (o : Oper) (ps : List Nat) : Bool := match o.dst with | some d => ps.contains d | none => true
def dstBad (c : Ctx) (o : Oper) : Bool := match o.dst with | some d => !decide (d < c.n) | none => false
def pkOf (c : Ctx) (g : Gam) (C : Conds) (o : Oper) : PK :=
  match o.op with
  | .pick x a b => pkPick c g C x a b
  | .assign _ => if dstOwned g o then none else pk c g C o
  | .move _ => if dstOld g o then none else pk c g C o
  | _ => pk c g C o
def stepPK (c : Ctx) (lets : List Nat) (g : Gam) (C : Conds) (d : Nat) (k : TK) (es : List E) : Option OS :=
  if lets.contains d then
    match k with
    | .val e [] => if !(g.at d).2.isNo then none else some { d := [(d, C, .val (.s (c.ix d)) [])], ps := [d], rb := [d], fz := [], efs := [.lt (c.ix d) (ixC c C) e], chks := es.map fun e => (ixC c C, e) }
    | _ => none
  else if touches d k || leads d k then none else some { d := [(d, C, k)], ps := [d], rb := [d], fz := [], efs := [], chks := es.map fun e => (ixC c C, e) }
def stepM (g all : Gam) (m : MS) : OS := { d := m.d ++ killD m.ps m.rb m.fz all ++ freezeD m.fz g, ps := m.ps, rb := m.rb, fz := m.fz, efs := [], chks := m.es.map fun e => ([], e) }
/-- one operation -/
def stepOp (c : Ctx) (lets : List Nat) (ops : Array Oper) (all : Gam) (o : Oper) : Option OS :=
  let g := only all (looks ops all o)
  if dstBad c o then none else
  (condsOf c ops g o).bind fun C =>
  match callMOf c g C o, o.dst with
  | some (fn, ks, aps), some d => stepCallM c g all C d fn ks aps
  | some _, none => none
  | none, _ =>
  match callOf o, o.dst with
  | some (f, args, ts), some d => stepCall c g C o.type d f args ts
  | some _, none => none
  | none, _ => match pkOf c g C o, o.dst with
    | some (k, es), some d => stepPK c lets g C d k es
    | _, _ => if o.guard.isSome then none else (mk c g o).bind fun m => if m.ps.all (fun p => (domOf m.d).contains p) && m.rb.all (fun p => m.ps.contains p) && dstIn o m.ps then some (stepM g all m) else none

/-- which temporaries must be a list of the call's own -/
def ownUses0 (ops : Array Oper) : List Nat :=
  ops.toList.filterMap fun o => match o.op, o.dst with
    | .assign (.tmp t), some _ => some t
    | .store _ _ (.tmp t), _ => some t
    | .call { callee := .builtin .append, args, .. }, _ => match args.toList with | .tmp t :: _ => some t | _ => none
    | _, _ => none
def ownUses (ops : Array Oper) : List Nat :=
  let l := ownUses0 ops
  l ++ ops.toList.flatMap fun o => match o.op, o.dst with
    | .build _ parts, some d => if l.contains d then parts.toList.filterMap fun x => match x.2 with | .tmp t => some t | _ => none else []
    | _, _ => []
/-- guards, and what a branch asks -/
def letsOf (ops : Array Oper) : List Nat :=
  ops.toList.filterMap fun o => match o.guard with
    | some (j, _) => (ops[j]?).bind (·.dst)
    | none => none
/-- an operation's place in a region: what it does, whose kinds it asks, and what must have run ahead of it -/
structure XS where
  os : OS
  R : List Nat
  T : List Nat
  deriving Inhabited
def Tof (xs : List XS) (e : Nat) : List Nat := match xs[e]? with | some x => x.T | none => []
def edgesOf (o : Oper) : List Nat := (o.after.toList.filter fun e => Region.binds .any e).map (·.on)
/-- the operations that have run ahead of one: those that it waits for, and theirs -/
def waits (draw : Bool) (xs : List XS) (o : Oper) : List Nat :=
  if draw then (List.range xs.length).filter fun j => (edgesOf o).any fun e => e == j || (Tof xs e).contains j
  else List.range xs.length
def stepAll (c : Ctx) (draw : Bool) (lets : List Nat) (ops : Array Oper) : List Oper → Gam → List XS → Option (Gam × List XS)
  | [], g, xs => some (g, xs)
  | o :: l, g, xs => if draw && !(edgesOf o).all (fun e => decide (e < xs.length)) then none else (stepOp c lets ops g o).bind fun os => stepAll c draw lets ops l (os.d ++ g) (xs ++ [{ os, R := looks ops g o, T := waits draw xs o }])
def quietIn (os : OS) (g : Gam) : Bool := g.all fun x => (domOf os.d).contains x.1 || calm os.ps os.rb os.fz x.2.2
def apartL (a b : List Nat) : Bool := a.all fun t => !b.contains t
/-- x is at place i, y at place j -/
def okPair (x : XS) (i : Nat) (y : XS) (j : Nat) : Bool :=
  j == i || ((y.T.contains i || quietIn x.os y.os.d) && (x.T.contains j || y.T.contains i || (apartL (domOf y.os.d) (domOf x.os.d) && apartL (domOf y.os.d) x.R)))
def okOrders (g0 : Gam) (xs : List XS) : Bool :=
  xs.zipIdx.all fun x => (x.1.os.ps.all fun p => (domOf x.1.os.d).contains p) && (x.1.os.fz.all fun p => (domOf x.1.os.d).contains p) && quietIn x.1.os g0 &&
    (x.1.T.all fun j => j < x.2) && xs.zipIdx.all fun y => okPair x.1 x.2 y.1 y.2

abbrev SS := List (Nat × OT)
def entryK (c : Ctx) (t : Nat) : OT → TK
  | .fz => .val (.s (c.ix t)) []
  | .own ty => .own ty (.s (c.ix t))
  | .nil => .nil
  | .mem l => .mem (l.zipIdx.map fun x => (x.1, .m (c.ix t) x.2))
  | .clo f caps => .clo f caps
def entry (c : Ctx) (S : SS) : Gam := S.map fun x => (x.1, [], entryK c x.1 x.2)
def outK : TK → Option OT
  | .val _ _ => some .fz
  | .own ty _ => some (.own ty)
  | .nil => some .nil
  | .mem cs => some (.mem (cs.map (·.1)))
  | .clo f caps => some (.clo f caps)
  | _ => none
/-- with whose memory the values share that are kept -/
def keptSh (keep : List Nat) (g : Gam) : List Nat := keep.flatMap fun t => match g.at t with
  | ([], .val _ sh) => sh
  | _ => []
def ovK : TK → OV
  | .val e _ => .v e
  | .own _ e => .v e
  | .nil => .v (.c (.sl []))
  | .mem cs => .m (cs.map (·.2))
  | _ => .no
def sameOV (i : Nat) : OV → Bool
  | .v (.s j) => i == j
  | .m l => (l.zipIdx.all fun x => match x.1 with | .m j k => i == j && k == x.2 | _ => false)
  | _ => false
def outSS (keep : List Nat) (g : Gam) : SS := keep.filterMap fun t => if (g.at t).1.isEmpty then (outK (g.at t).2).map fun k => (t, k) else none
def SS.at (S : SS) (t : Nat) : Option OT :=
  match S with
  | [] => none
  | (u, x) :: r => if u = t then some x else SS.at r t
def outOne (c : Ctx) (S : SS) (g : Gam) (t : Nat) : Option (Nat × OV) :=
  let o := if (g.at t).1.isEmpty then ovK (g.at t).2 else .no
  if sameOV (c.ix t) o then none
  else match S.at t, (g.at t).2 with
    | some .nil, .nil => none
    | none, .no => none
    | _, _ => some (c.ix t, o)
def outOV (c : Ctx) (S : SS) (keep : List Nat) (g : Gam) : List (Nat × OV) := keep.filterMap (outOne c S g)
def efE : EF → List (Conds × E)
  | .lt _ C e => [(C, e)]
  | .call _ C _ _ _ as => as.map fun e => (C, e)
  | .callm _ C f _ as => (f.es ++ as).map fun e => (C, e)
def ovE : OV → List E
  | .v e => [e]
  | .m l => l
  | .no => []
/-- e must have a value under the conditions C, since something has -/
def covered (l : List (Conds × E)) (x : Conds × E) : Bool := l.any fun y => condsIn y.1 x.1 && E.has x.2 y.2
def isConstE : E → Bool
  | .c _ => true
  | _ => false
/-- those that must be asked, beside what is asked already -/
def prune : List (Conds × E) → List (Conds × E) → List (Conds × E)
  | _, [] => []
  | l, x :: r => let q := prune l r; if covered (l ++ q) x then q else x :: q
def efI : EF → Nat
  | .lt i _ _ => i
  | .call i _ _ _ _ _ => i
  | .callm i _ _ _ _ => i
/-! which places of a state an expression asks -/
mutual
def E.asks (t : Nat) : E → Bool
  | .s u => t == u
  | .m u _ => t == u
  | .mm u _ _ => t == u
  | .bin _ a b | .eqv _ a b | .mn a b | .mx a b => E.asks t a || E.asks t b
  | .idx a b _ | .ai a b _ _ _ | .slcl a b _ | .app a b _ => E.asks t a || E.asks t b
  | .lk _ a b _ _ => E.asks t a || E.asks t b
  | .mput _ a b d => E.asks t a || E.asks t b || E.asks t d
  | .mlen a | .mclr a => E.asks t a
  | .un _ a | .conv _ a | .len a | .ext a _ | .fld a _ | .flds a _ _ | .mk _ a | .star a | .isag a | .one a | .sz a _ | .fl a | .fls a => E.asks t a
  | .slc a b d _ | .upd a b _ d | .aput a b _ _ d | .ite a b d => E.asks t a || E.asks t b || E.asks t d
  | .lit l | .ag l => E.asksIn t l
  | .c _ => false
def E.asksIn (t : Nat) : List E → Bool
  | [] => false
  | a :: l => E.asks t a || E.asksIn t l
end
def efAsks (t : Nat) : EF → Bool
  | .lt _ C e => C.any (fun x => x.1 == t) || E.asks t e
  | .call _ C _ _ _ as => C.any (fun x => x.1 == t) || E.asksIn t as
  | .callm _ C f _ as => C.any (fun x => x.1 == t) || E.asksIn t (f.es ++ as)
/-- what is told first is not told again, and nobody has asked for it ahead -/
def okEfs : List EF → Bool
  | [] => true
  | x :: l => !efAsks (efI x) x && l.all (fun y => efI y != efI x && !efAsks (efI y) x) && okEfs l
/-- nobody writes these slots -/
def fixOk (fix : List Nat) (ops : Array Oper) : Bool := ops.toList.all fun o => match o.dst with
  | some d => !fix.contains d
  | none => true
def compReg (P : Program) (ix : Nat → Nat) (fresh : FuncId → Bool) (sig : FuncId → Option (List OT)) (tr fix : List Nat) (n : Nat) (keep : List Nat) (draw : Bool) (ops : Array Oper) (S : SS) : Option (Reg × SS) :=
  let uses := ownUses ops
  let c : Ctx := { P, ix, own := fun t => uses.contains t, fresh, sig, tr, n }
  let g0 := entry c S
  (stepAll c draw (letsOf ops) ops ops.toList g0 []).bind fun r =>
    let sh := keptSh keep r.1
    let g := frz sh r.1
    let outs := outOV c S keep g
    let efs := r.2.flatMap fun x => x.os.efs
    let chks := r.2.flatMap fun x => x.os.chks
    let asked := (efs.flatMap efE) ++ (outs.flatMap fun x => (ovE x.2).map fun e => (([] : Conds), e))
    if fixOk fix ops && okOrders g0 r.2 && okEfs efs && (efs.all fun x => S.all fun y => c.ix y.1 != efI x) then
      some ({ efs, chks := prune asked chks, outs }, outSS keep g)
    else none
end Vm
