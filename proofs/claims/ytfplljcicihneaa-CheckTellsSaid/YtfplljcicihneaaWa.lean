/-
  How a program over values is walked: the forms in which its steps are told; numbers; what values are called.
-/
import Derived.Test.YtfplljcicihneaaGs
namespace Vm
open Go
open Go.Proofs
set_option linter.unusedSimpArgs false
set_option linter.unusedVariables false

/-! ### The steps -/
def condW (x : Option V) (A B : Prop) : Prop :=
  match x with
  | some (.bool true) => A
  | some (.bool false) => B
  | _ => False
@[simp] theorem condW_bool (b : Bool) (A B : Prop) : condW (some (.bool b)) A B ↔ if b = true then A else B := by cases b <;> simp [condW]
def onO {α : Type} (x : Option α) (K : α → Prop) : Prop :=
  match x with
  | some x => K x
  | none => False
@[simp] theorem onO_some {α : Type} (x : α) (K : α → Prop) : onO (some x) K ↔ K x := Iff.rfl
@[simp] theorem onO_none {α : Type} (K : α → Prop) : onO none K ↔ False := Iff.rfl
@[simp] theorem onO_map {α β : Type} (f : α → β) (x : Option α) (K : β → Prop) : onO (x.map f) K ↔ onO x (fun y => K (f y)) := by cases x <;> rfl
@[simp] theorem onO_bind {α β : Type} (f : α → Option β) (x : Option α) (K : β → Prop) : onO (x.bind f) K ↔ onO x (fun y => onO (f y) K) := by cases x <;> rfl
@[simp] theorem onO_ite {α : Type} (p : Prop) [Decidable p] (x y : Option α) (K : α → Prop) : onO (if p then x else y) K ↔ if p then onO x K else onO y K := by split <;> rfl
def callW (P : Program) (f : FuncId) (fr fl : Bool) (xs : List V) (K : V → Prop) : Prop := ∃ r, VC P f fr xs r ∧ (fl = true → flV r = some r) ∧ K r
theorem callW_of {P : Program} {f : FuncId} {fr fl : Bool} {xs : List V} {K : V → Prop} {r : V} (h : VC P f fr xs r) (hf : fl = true → flV r = some r) (hK : K r) : callW P f fr fl xs K := ⟨r, h, hf, hK⟩
def callWM (P : Program) (f : FuncId) (ks : List OT) (xs : List V) (K : V → Prop) : Prop := ∃ R, VCM P f ks xs R ∧ K R
theorem callWM_of {P : Program} {f : FuncId} {ks : List OT} {xs : List V} {K : V → Prop} {R : V} (h : VCM P f ks xs R) (hK : K R) : callWM P f ks xs K := ⟨R, h, hK⟩

/-! What follows a step, as a word of its own: simp looks into it only when the state is there. -/
def kS (P : Program) (b : Stm) (N : St → Prop) (X : Nat → St → Prop) (R : St → Prop) (s : St) : Prop := wpS P b s N X R
def xB (id : Nat) (N : St → Prop) (X : Nat → St → Prop) (i : Nat) (s : St) : Prop := if i = id then N s else X i s
def kR (chks : List (Conds × E)) (outs : List (Nat × OV)) (K : St → Prop) (t : St) : Prop := wpC t chks ∧ wpO outs t t K
def kO (l : List (Nat × OV)) (t u : St) (i : Nat) (K : St → Prop) (x : SV) : Prop := wpO l t (putS u i x) K
def kL (P : Program) (l : List EF) (s : St) (i : Nat) (K : St → Prop) (x : V) : Prop := wpE P l (putS s i (.v x)) K
def kA (P : Program) (f : FuncId) (fr fl : Bool) (K : V → Prop) (xs : List V) : Prop := callW P f fr fl xs K
/-- a call of what a value tells -/
def kAE (P : Program) (fr fl : Bool) (K : V → Prop) (xs : List V) (v : V) : Prop := onO (cloV v) fun n => callW P n.1 fr fl (xs ++ n.2) K
def kAF (P : Program) (x : Option V) (fr fl : Bool) (K : V → Prop) (xs : List V) : Prop := onO x (kAE P fr fl K xs)
def kAM (P : Program) (f : Option FuncId) (ks : List OT) (K : V → Prop) (xs : List V) : Prop := onO f fun n => callWM P n ks xs K
def kW (P : Program) (l : List EF) (s : St) (i : Nat) (K : St → Prop) (os : List V) : Prop := if os = [] then wpE P l s K else wpE P l (putS s i (.v (.tup (.bool false :: os)))) K
def kT (_ : V) : Prop := True
section
variable {P : Program} {N R : St → Prop} {X : Nat → St → Prop} {K : St → Prop} {s t u : St}
@[simp] theorem kS_at (b : Stm) : kS P b N X R s ↔ wpS P b s N X R := Iff.rfl
@[simp] theorem xB_same (id : Nat) : xB id N X id s ↔ N s := by simp [xB]
theorem xB_other (id i : Nat) : xB id N X i s ↔ if i = id then N s else X i s := Iff.rfl
@[simp] theorem xB_ne {id i : Nat} (h : i ≠ id) : xB id N X i s ↔ X i s := by simp [xB, h]
@[simp] theorem kR_at (chks : List (Conds × E)) (outs : List (Nat × OV)) : kR chks outs K t ↔ wpC t chks ∧ wpO outs t t K := Iff.rfl
@[simp] theorem kO_at (l : List (Nat × OV)) (i : Nat) (x : SV) : kO l t u i K x ↔ wpO l t (putS u i x) K := Iff.rfl
@[simp] theorem kL_at (l : List EF) (i : Nat) (x : V) : kL P l s i K x ↔ wpE P l (putS s i (.v x)) K := Iff.rfl
@[simp] theorem kA_at (f : FuncId) (fr fl : Bool) (K : V → Prop) (xs : List V) : kA P f fr fl K xs ↔ callW P f fr fl xs K := Iff.rfl
@[simp] theorem kAF_some (v : V) (fr fl : Bool) (K : V → Prop) (xs : List V) : kAF P (some v) fr fl K xs ↔ kAE P fr fl K xs v := Iff.rfl
@[simp] theorem kAE_fn (f : FuncId) (fr fl : Bool) (K : V → Prop) (xs : List V) : kAE P fr fl K xs (.fn f) ↔ callW P f fr fl xs K := by simp [kAE, cloV]
@[simp] theorem kAE_clo (f : FuncId) (cs : List V) (fr fl : Bool) (K : V → Prop) (xs : List V) : kAE P fr fl K xs (.clo f cs) ↔ callW P f fr fl (xs ++ cs) K := by simp [kAE, cloV]
@[simp] theorem kAM_some (f : FuncId) (ks : List OT) (K : V → Prop) (xs : List V) : kAM P (some f) ks K xs ↔ callWM P f ks xs K := Iff.rfl
@[simp] theorem kW_nil (l : List EF) (i : Nat) : kW P l s i K [] ↔ wpE P l s K := by simp [kW]
@[simp] theorem kW_cons (l : List EF) (i : Nat) (x : V) (os : List V) : kW P l s i K (x :: os) ↔ wpE P l (putS s i (.v (.tup (.bool false :: x :: os)))) K := by simp [kW]
@[simp] theorem kT_at (x : V) : kT x ↔ True := Iff.rfl
@[simp] theorem wpS_reg (r : Reg) : wpS P (.reg r) s N X R ↔ wpR P r s N := Iff.rfl
@[simp] theorem wpS_skip : wpS P .skip s N X R ↔ N s := Iff.rfl
@[simp] theorem wpS_seq (a b : Stm) : wpS P (.seq a b) s N X R ↔ wpS P a s (kS P b N X R) X R := Iff.rfl
@[simp] theorem wpS_cond (c : E) (a b : Stm) : wpS P (.cond c a b) s N X R ↔ condW (eval s c) (wpS P a s N X R) (wpS P b s N X R) := by
  simp only [wpS, condW]
  generalize eval s c = x
  cases x with
  | none => rfl
  | some v => cases v <;> first | rfl | (rename_i q; cases q <;> rfl)
@[simp] theorem wpS_block (id : Nat) (a : Stm) : wpS P (.block id a) s N X R ↔ wpS P a s N (xB id N X) R := Iff.rfl
@[simp] theorem wpS_exit (id : Nat) : wpS P (.exit id) s N X R ↔ X id s := Iff.rfl
@[simp] theorem wpS_ret : wpS P .ret s N X R ↔ R s := Iff.rfl
theorem wpS_loop {keep : List Nat} {a : Stm} (I : St → Prop) (μ : St → Nat) (h0 : I (onlyS keep s)) (h1 : ∀ s, I s → wpS P a s (fun s' => I (onlyS keep s') ∧ μ (onlyS keep s') < μ s) X R) : wpS P (.loop keep a) s N X R := ⟨I, μ, h0, h1⟩
@[simp] theorem wpR_eq (efs : List EF) (chks : List (Conds × E)) (outs : List (Nat × OV)) : wpR P ⟨efs, chks, outs⟩ s K ↔ wpE P efs s (kR chks outs K) := Iff.rfl
@[simp] theorem wpO_nil : wpO [] t u K ↔ K u := Iff.rfl
@[simp] theorem wpO_cons (i : Nat) (o : OV) (l : List (Nat × OV)) : wpO ((i, o) :: l) t u K ↔ onO (ovV t o) (kO l t u i K) := by
  simp only [wpO, onO, kO]
  cases ovV t o <;> rfl
@[simp] theorem wpC_nil : wpC t [] ↔ True := Iff.rfl
@[simp] theorem wpC_cons (C : Conds) (e : E) (l : List (Conds × E)) : wpC t ((C, e) :: l) ↔ (holdsB t C = true → onO (eval t e) kT) ∧ wpC t l := by
  simp only [wpC, onO, kT]
  cases eval t e <;> simp
@[simp] theorem wpE_nil : wpE P [] s K ↔ K s := Iff.rfl
@[simp] theorem wpE_lt (i : Nat) (C : Conds) (e : E) (l : List EF) : wpE P (.lt i C e :: l) s K ↔ if holdsB s C = true then onO (eval s e) (kL P l s i K) else wpE P l s K := by
  simp only [wpE, onO, kL]
  cases eval s e <;> rfl
@[simp] theorem wpE_call (i : Nat) (C : Conds) (f : FuncId) (fr fl : Bool) (es : List E) (l : List EF) : wpE P (.call i C (.id f) fr fl es :: l) s K ↔ if holdsB s C = true then onO (evals s es) (kA P f fr fl (kL P l s i K)) else wpE P l s K := by
  simp only [wpE, onO, kA, callW, kL, fnV]
  cases evals s es <;> simp
@[simp] theorem wpE_calle (i : Nat) (C : Conds) (x : E) (fr fl : Bool) (es : List E) (l : List EF) : wpE P (.call i C (.e x) fr fl es :: l) s K ↔ if holdsB s C = true then onO (evals s es) (kAF P (eval s x) fr fl (kL P l s i K)) else wpE P l s K := by
  simp only [wpE, onO, kAF, kAE, callW, kL, fnV]
  cases evals s es with
  | none => simp
  | some xs =>
    cases eval s x with
    | none => simp
    | some v => cases hv : cloV v <;> simp [hv]
@[simp] theorem wpE_callm (i : Nat) (C : Conds) (f : FN) (ks : List OT) (es : List E) (l : List EF) : wpE P (.callm i C f ks es :: l) s K ↔
    if holdsB s C = true then onO (evals s es) (kAM P (fnOf s f) ks (kL P l s i K))
    else onO (oldV s ks es) (kW P l s i K) := by
  simp only [wpE, onO, callWM, kAM, kL, kW]
  split
  · cases evals s es <;> cases fnOf s f <;> simp
  · cases oldV s ks es with
    | none => simp
    | some os => cases os <;> simp
@[simp] theorem ovV_v (e : E) : ovV t (.v e) = (eval t e).map .v := rfl
@[simp] theorem ovV_m (l : List E) : ovV t (.m l) = (evals t l).map .m := rfl
@[simp] theorem ovV_no : ovV t .no = some .no := rfl
@[simp] theorem holdsB_nil : holdsB s [] = true := rfl
theorem holdsB_cons (i : Nat) (b : Bool) (C : Conds) : holdsB s ((i, b) :: C) = ((match get s i with | .v (.bool c) => c == b | _ => false) && holdsB s C) := rfl
end
@[simp] theorem get_zero (x : SV) (s : St) : get (x :: s) 0 = x := rfl
@[simp] theorem get_succ (x : SV) (s : St) (n : Nat) : get (x :: s) (n + 1) = get s n := by simp [get]
@[simp] theorem putS_zero (x y : SV) (s : St) : putS (y :: s) 0 x = x :: s := rfl
@[simp] theorem putS_succ (x y : SV) (s : St) (n : Nat) : putS (y :: s) (n + 1) x = y :: putS s n x := rfl
@[simp] theorem putS_nil_zero (x : SV) : putS [] 0 x = [x] := rfl
@[simp] theorem putS_nil_succ (x : SV) (n : Nat) : putS [] (n + 1) x = .no :: putS [] n x := rfl

@[simp] theorem onlyS_nil (s : St) : onlyS [] s = [] := rfl
@[simp] theorem onlyS_cons (i : Nat) (l : List Nat) (s : St) : onlyS (i :: l) s = putS (onlyS l s) i (get s i) := rfl

/-! ### Values -/
attribute [simp] ptV eval evals holdsB_cons resV resV1 resVs finV finAll outsV packV argS argsS fnOf oldV
section
variable {k : IntKind} {a b : Int} {x y : V} {l r : List V}
@[simp] theorem binV_add : binV .add (.int k a) (.int k b) = some (.int k (k.wrap (a + b))) := by simp [binV]
@[simp] theorem binV_sub : binV .sub (.int k a) (.int k b) = some (.int k (k.wrap (a - b))) := by simp [binV]
@[simp] theorem binV_mul : binV .mul (.int k a) (.int k b) = some (.int k (k.wrap (a * b))) := by simp [binV]
@[simp] theorem binV_quo : binV .quo (.int k a) (.int k b) = if b ≠ 0 then some (.int k (k.wrap (a.tdiv b))) else none := by simp [binV]
@[simp] theorem binV_rem : binV .rem (.int k a) (.int k b) = if b ≠ 0 then some (.int k (a.tmod b)) else none := by simp [binV]
@[simp] theorem binV_eql : binV .eql (.int k a) (.int k b) = some (.bool (decide (a = b))) := by simp [binV]; rfl
@[simp] theorem binV_neq : binV .neq (.int k a) (.int k b) = some (.bool (!decide (a = b))) := by simp [binV]; rfl
@[simp] theorem binV_lss : binV .lss (.int k a) (.int k b) = some (.bool (decide (a < b))) := by simp [binV]
@[simp] theorem binV_leq : binV .leq (.int k a) (.int k b) = some (.bool (decide (a ≤ b))) := by simp [binV]
@[simp] theorem binV_gtr : binV .gtr (.int k a) (.int k b) = some (.bool (decide (b < a))) := by simp [binV]
@[simp] theorem binV_geq : binV .geq (.int k a) (.int k b) = some (.bool (decide (b ≤ a))) := by simp [binV]
@[simp] theorem eqV_bool (p q n : Bool) : eqV n (.bool p) (.bool q) = some (.bool (n ^^ (p == q))) := rfl
@[simp] theorem unV_neg : unV .neg (.int k a) = some (.int k (k.wrap (0 - a))) := rfl
@[simp] theorem unV_not (p : Bool) : unV .not (.bool p) = some (.bool !p) := rfl
@[simp] theorem convV_int (k' : IntKind) : convV k' (.int k a) = some (.int k' (k'.wrap a)) := rfl
@[simp] theorem lenV_sl : lenV (.sl l) = some (.int .i64 l.length) := rfl
@[simp] theorem mlenV_mp (id : Nat) (vs : List V) : mlenV (.mp id l vs) = some (.int .i64 l.length) := rfl
@[simp] theorem mclrV_mp (id : Nat) (vs : List V) : mclrV (.mp id l vs) = some (.mp id [] []) := rfl
@[simp] theorem minV_int : minV (.int k a) (.int k b) = some (.int k (if b < a then b else a)) := rfl
@[simp] theorem maxV_int : maxV (.int k a) (.int k b) = some (.int k (if b > a then b else a)) := rfl
@[simp] theorem extV_tup (i : Nat) : extV (.tup l) i = l[i]? := rfl
@[simp] theorem idxV_nat (i n : Nat) : idxV (.sl l) (.int k (i : Int)) n = (l[i]?).bind fun z => if z.cells.length = n then some z else none := by simp [idxV]
@[simp] theorem cells_int : (V.int k a).cells = [V.int k a] := rfl
@[simp] theorem cells_bool (p : Bool) : (V.bool p).cells = [V.bool p] := rfl
@[simp] theorem cells_str (s : ByteArray) : (V.str s).cells = [V.str s] := rfl
@[simp] theorem cells_sl : (V.sl l).cells = [V.sl l] := rfl
@[simp] theorem cells_agg : (V.agg l).cells = l := rfl
@[simp] theorem cells_mp (id : Nat) : (V.mp id l r).cells = [V.mp id l r] := rfl
@[simp] theorem cells_fn (f : FuncId) : (V.fn f).cells = [V.fn f] := rfl
@[simp] theorem one_int : (V.int k a).one = true := rfl
@[simp] theorem one_bool (p : Bool) : (V.bool p).one = true := rfl
@[simp] theorem one_sl : (V.sl l).one = true := rfl
@[simp] theorem one_mp (id : Nat) : (V.mp id l r).one = true := rfl
@[simp] theorem one_fn (f : FuncId) : (V.fn f).one = true := rfl
@[simp] theorem one_agg : (V.agg l).one = false := rfl
@[simp] theorem oneV_int : oneV (.int k a) = some (.int k a) := rfl
@[simp] theorem oneV_bool (p : Bool) : oneV (.bool p) = some (.bool p) := rfl
@[simp] theorem oneV_str (s : ByteArray) : oneV (.str s) = some (.str s) := rfl
@[simp] theorem oneV_sl : oneV (.sl l) = some (.sl l) := rfl
@[simp] theorem oneV_mp (id : Nat) : oneV (.mp id l r) = some (.mp id l r) := rfl
@[simp] theorem oneV_fn (f : FuncId) : oneV (.fn f) = some (.fn f) := rfl
@[simp] theorem fldV_agg (o : Nat) : fldV (.agg l) o = (l[o]?).bind oneV := rfl
@[simp] theorem fldV_int : fldV (.int k a) 0 = some (.int k a) := rfl
@[simp] theorem fldV_bool (p : Bool) : fldV (.bool p) 0 = some (.bool p) := rfl
@[simp] theorem fldV_sl : fldV (.sl l) 0 = some (.sl l) := rfl
@[simp] theorem fldV_str (s : ByteArray) : fldV (.str s) 0 = some (.str s) := rfl
@[simp] theorem fldsV_agg (o n : Nat) : fldsV (.agg l) o n = if o + n ≤ l.length then some (.agg ((l.drop o).take n)) else none := rfl
@[simp] theorem szV_agg (n : Nat) : szV (.agg l) n = if l.length = n then some (.agg l) else none := rfl
@[simp] theorem isagV_agg : isagV (.agg l) = some (.agg l) := rfl
@[simp] theorem starV_ptr : starV (.ptr l) = some (.agg l) := rfl
@[simp] theorem iteV_bool (p : Bool) (A B : Option V) : iteV (.bool p) A B = if p = true then A else B := by cases p <;> rfl
@[simp] theorem agV_eq : agV l = .agg (flat l) := rfl
@[simp] theorem flat_cons' : flat (x :: l) = x.cells ++ flat l := rfl
@[simp] theorem flat_nil' : flat [] = [] := rfl
@[simp] theorem appV_sl (n : Nat) : appV n (.sl l) (.sl r) = if l.length + r.length ≤ lim ∧ sizeOk n r = true then some (.sl (l ++ r)) else none := rfl
@[simp] theorem sizeOk_nil (n : Nat) : sizeOk n [] = true := rfl
@[simp] theorem sizeOk_cons (n : Nat) : sizeOk n (x :: l) = (x.cells.length == n && sizeOk n l) := rfl
theorem sizeOk_map {α : Type} {f : α → V} {n : Nat} {l : List α} (h : ∀ x, (f x).cells.length = n) : sizeOk n (l.map f) = true := by
  simp [sizeOk, h]
@[simp] theorem sizeOk_vi (l : List Int) : sizeOk 1 (l.map (V.int k)) = true := sizeOk_map fun _ => rfl
@[simp] theorem mkV_nat (n : Nat) : mkV x (.int k (n : Int)) = if n ≤ lim then some (.sl (List.replicate n x)) else none := by
  simp only [mkV]
  have : ((n : Int) ≤ (lim : Nat)) ↔ n ≤ lim := by omega
  simp [this]
@[simp] theorem slcV_nat (i j n : Nat) : slcV n (.sl l) (.int k (i : Int)) (.int k (j : Int)) = if i ≤ j ∧ j ≤ l.length ∧ sizeOk n l = true then some (.sl ((l.take j).drop i)) else none := by
  simp [slcV]
@[simp] theorem slclV_nat (i n : Nat) : slclV n (.sl l) (.int k (i : Int)) = if i ≤ l.length ∧ sizeOk n l = true then some (.sl (l.drop i)) else none := by
  simp [slclV]
@[simp] theorem updV_nat (i o : Nat) : updV (.sl l) (.int k (i : Int)) o y = (l[i]?).bind fun z => if o + y.cells.length ≤ z.cells.length ∧ y.cells ≠ [] then some (.sl (l.set i (z.put o y.cells))) else none := by
  simp [updV]
end

/-! ### Numbers -/
abbrev vi (n : Int) : V := .int .i64 n
abbrev vu (n : Int) : V := .int .u64 n
@[simp] theorem nat_neg (n : Nat) : ((n : Int) < 0) ↔ False := ⟨fun h => absurd h (by omega), False.elim⟩
theorem wrap_i (n : Int) (h1 : -9223372036854775808 ≤ n) (h2 : n ≤ 9223372036854775807) : IntKind.i64.wrap n = n := by
  rw [IntKind.wrap_i64]; omega
end Vm
