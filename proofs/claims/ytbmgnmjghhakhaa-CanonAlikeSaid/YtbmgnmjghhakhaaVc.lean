/-
  Statements: a function's code, its regions read as expressions and effects.
-/
import Derived.Test.YtbmgnmjghhakhaaVb
namespace Vm
open Go

inductive Stm where
  | reg (r : Reg)
  | skip
  | seq (a b : Stm)
  | cond (c : E) (a b : Stm)
  | block (id : Nat) (a : Stm)
  | loop (keep : List Nat) (a : Stm)
  | exit (id : Nat)
  | ret
  deriving Inhabited

/-! ### Which slots a state keeps -/
/-- what a region reads that it has not written itself; what it writes that may be kept -/
def readsOf (ops : Array Oper) : List Oper → List Nat → List Nat
  | [], _ => []
  | o :: l, seen =>
    (o.op.operands.toList.filterMap fun x => match x with | .tmp t => if seen.contains t then none else some t | _ => none) ++
    readsOf ops l (match o.dst with | some d => d :: seen | none => seen)
def ownSlots (ops : Array Oper) : List Nat :=
  ops.toList.filterMap fun o => match o.dst, o.op with
    | some d, .assign _ | some d, .alloc _ | some d, .box _ _ => some d
    | _, _ => none
def letSlots (ops : Array Oper) : List Nat :=
  ops.toList.filterMap fun o => match o.dst, o.op with
    | some d, .call { callee := .value _, .. } => some d
    | some d, _ => if (letsOf ops).contains d then some d else none
    | none, _ => none
def codeSlots (f : Array Oper → List Nat) : Code → List Nat
  | .region _ ops _ => f ops
  | .seq a b => codeSlots f a ++ codeSlots f b
  | .cond (.tmp t) a b => t :: codeSlots f a ++ codeSlots f b
  | .cond _ a b => codeSlots f a ++ codeSlots f b
  | .block _ a | .loop a | .scope a => codeSlots f a
  | _ => []
def dedup : List Nat → List Nat → List Nat
  | acc, [] => acc.reverse
  | acc, t :: l => dedup (if acc.contains t then acc else t :: acc) l
def pos : List Nat → Nat → Nat
  | [], _ => 0
  | u :: l, t => if u = t then 0 else pos l t + 1

/-! ### Static states: what may be forgotten -/
def leOT (P : Program) : OT → OT → Bool
  | .own a, .own b => a == b
  | .nil, .own a => decide (0 < P.cellsOf a)
  | .nil, .nil | .nil, .fz | .fz, .fz | .own _, .fz => true
  | .mem a, .mem b => leCKs P a b
  | .clo f a, .clo g b => f == g && a == b
  | _, _ => false
def leSS (P : Program) (S R : SS) : Bool := R.all fun x => match S.at x.1 with | some k => leOT P k x.2 | none => false
def leO (P : Program) (S : Option SS) (R : Option SS) : Bool := match S, R with | none, _ => true | some S, some R => leSS P S R | some _, none => false
def meetCK (P : Program) : CK → CK → CK
  | a, b => if leCK P a b then b else if leCK P b a then a else match a, b with | .dead, _ | _, .dead => .dead | _, _ => .fz
def meetOT (P : Program) : OT → OT → Option OT
  | .mem a, .mem b => if a.length = b.length then some (.mem ((a.zip b).map fun x => meetCK P x.1 x.2)) else none
  | .mem _, _ | _, .mem _ => none
  | a, b => if leOT P a b then some b else if leOT P b a then some a else some .fz
def meetSS (P : Program) (S R : SS) : SS := S.filterMap fun x => (R.at x.1).bind fun k => (meetOT P x.2 k).map fun k => (x.1, k)
def meetO (P : Program) : Option SS → Option SS → Option SS
  | none, b => b
  | a, none => a
  | some a, some b => some (meetSS P a b)
def meetAll (P : Program) : List SS → Option SS
  | [] => none
  | S :: l => meetO P (some S) (meetAll P l)

structure Flow where
  n : Option SS
  x : List (Nat × SS)
  r : List SS

structure FC where
  P : Program
  ix : Nat → Nat
  fresh : FuncId → Bool
  sig : FuncId → Option (List OT)
  tr : List Nat
  fix : List Nat
  n : Nat
  keep : List Nat

def headOf (P : Program) (f : SS → Option (Stm × Flow)) : Nat → SS → Option SS
  | 0, S => some S
  | k + 1, S => (f S).bind fun x => match x.2.n with
    | none => some S
    | some R => if leSS P R S then some S else headOf P f k (meetSS P S R)
def comp (c : FC) : Code → SS → Option (Stm × Flow)
  | .skip, S | .label _, S => some (.skip, ⟨some S, [], []⟩)
  | .region _ ops draw, S => (compReg c.P c.ix c.fresh c.sig c.tr c.fix c.n c.keep draw ops S).map fun x => (.reg x.1, ⟨some x.2, [], []⟩)
  | .seq a b, S => (comp c a S).bind fun x => match x.2.n with
    | none => some x
    | some R => (comp c b R).map fun y => (.seq x.1 y.1, ⟨y.2.n, x.2.x ++ y.2.x, x.2.r ++ y.2.r⟩)
  | .cond (.tmp t) a b, S => if S.at t = some .fz then (comp c a S).bind fun x => (comp c b S).bind fun y =>
      let M := meetO c.P x.2.n y.2.n
      if leO c.P x.2.n M && leO c.P y.2.n M then some (.cond (.s (c.ix t)) x.1 y.1, ⟨M, x.2.x ++ y.2.x, x.2.r ++ y.2.r⟩) else none else none
  | .block id a, S => (comp c a S).bind fun x =>
      let M := meetO c.P x.2.n (meetAll c.P ((x.2.x.filter fun y => y.1 == id).map (·.2)))
      if leO c.P x.2.n M && x.2.x.all (fun y => y.1 != id || leO c.P (some y.2) M) then
        some (.block id x.1, ⟨M, x.2.x.filter fun y => y.1 != id, x.2.r⟩) else none
  | .loop a, S => (headOf c.P (comp c a) 4 S).bind fun H => (comp c a H).bind fun x =>
      if leSS c.P S H && leO c.P x.2.n (some H) then some (.loop (H.map fun y => c.ix y.1) x.1, ⟨none, x.2.x, x.2.r⟩) else none
  | .exit id, S => some (.exit id, ⟨none, [(id, S)], []⟩)
  | .scope a, S => comp c a S
  | .ret, S => some (.ret, ⟨none, [], [S]⟩)
  | _, _ => none

/-- how a result is told: a slot's value; a variable's cells, side by side; a variable's one cell -/
inductive RK where
  | v | ag (n : Nat) | one
  deriving Inhabited
structure Fn where
  n : Nat
  keep : List Nat
  body : Stm
  res : List (Nat × RK)
  deriving Inhabited
def resOf (P : Program) (ix : Nat → Nat) (f : Func) : List (Nat × RK) :=
  f.results.toList.map fun r => match r with | .tmp t => (ix t, .v) | .cell a t => (ix a, if isAggT P t then .ag (P.cellsOf t) else .one)
/-- a state in which the function's results can be told -/
def okRes (P : Program) (S : SS) : ResultVar → Bool
  | .tmp t => match S.at t with | some (.mem _) | some (.clo _ _) | none => false | _ => true
  | .cell t ty => match S.at t with | some (.mem l) => okT P ty && l.all (fun k => k != .dead) && (if isAggT P ty then l.length == P.cellsOf ty else decide (0 < l.length)) | _ => false
/-- what was handed in to be written -/
def paramSS (ks : List OT) : SS := ks.zipIdx.filterMap fun x => match x.1 with
  | .fz => none
  | k => some (x.2, k)
def resSlot : ResultVar → Nat
  | .tmp t => t
  | .cell t _ => t
def okFin (P : Program) (f : Func) (fin : SS) (S : SS) : Bool := f.results.toList.all (okRes P S) && leSS P S fin
/-- what is told is nothing that was handed in to be written -/
def resApart (f : Func) (fin : SS) : Bool := f.results.toList.all fun r => (fin.at (resSlot r)).isNone
def okNorm (P : Program) (f : Func) (fin : SS) : Option SS → Bool
  | some R => okFin P f fin R
  | none => true
def okEnd (P : Program) (ix : Nat → Nat) (f : Func) (ks : List OT) (fin : SS) (fl : Flow) : Bool :=
  okNorm P f fin fl.n && fl.r.all (okFin P f fin) && fl.x.isEmpty && (List.range ks.length).all (fun t => ix t == t)
def fixOf (ks : List OT) : List Nat := (paramSS ks).map (·.1)
/-- results that are no variables -/
def trOf (f : Func) : List Nat := f.results.toList.filterMap fun r => match r with
  | .tmp t => some t
  | _ => none
def compFn (P : Program) (fresh : FuncId → Bool) (sig : FuncId → Option (List OT)) (ks : List OT) (fin : SS) (f : Func) : Option Fn :=
  f.body.bind fun code =>
    let keep := dedup [] ((List.range ks.length) ++ codeSlots (fun ops => ownSlots ops ++ readsOf ops ops.toList []) code)
    let ix := pos (keep ++ dedup [] ((codeSlots letSlots code).filter fun t => !keep.contains t))
    let S : SS := ks.zipIdx.map fun x => (x.2, x.1)
    (comp { P, ix, fresh, sig, tr := trOf f, fix := fixOf ks, n := f.ntmps, keep } code S).bind fun x =>
      if okEnd P ix f ks fin x.2 then
        some { n := keep.length, keep, body := x.1, res := resOf P ix f }
      else none
end Vm
