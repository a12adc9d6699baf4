/-
  Contracts of functions on plain values (numbers, structs of them), as calls.
-/
import Derived.Test.YtfplljcicihneaaEc
import Derived.Test.YtfplljcicihneaaCi
namespace Vm
open Go Go.Proofs Go.RowKit
set_option maxHeartbeats 2000000
set_option maxRecDepth 100000
set_option linter.unusedSimpArgs false
set_option linter.unusedVariables false
def conc1 : V → Value
  | .int k n => .int k n
  | .bool b => .bool b
  | _ => undef
def flat1 : V → Bool
  | .int _ _ => true
  | .bool _ => true
  | _ => false
def conc2 : V → Value
  | .agg cs => .agg (cs.map conc1).toArray
  | x => conc1 x
def flat2 : V → Bool
  | .agg cs => cs.all flat1
  | x => flat1 x
def conc3 : V → Value
  | .tup l => .tuple (l.map conc2).toArray
  | x => conc2 x
def flat3 : V → Bool
  | .tup l => l.all flat2
  | x => flat2 x
variable {w : World} {G : Nat → Prop}
theorem rd_conc1 {x : V} (h : flat1 x = true) : Rd w G x (conc1 x) := by
  cases x <;> simp [flat1] at h
  · exact .int _ _
  · exact .bool _
theorem rd_conc2 {x : V} (h : flat2 x = true) : Rd w G x (conc2 x) := by
  cases x with
  | agg cs =>
    simp only [flat2, List.all_eq_true] at h
    refine .agg _ _ (by simp) (fun c hc => ?_) fun i c hc => ?_
    · have := h c hc
      cases c <;> simp [flat1] at this <;> rfl
    · have h1 := rd_conc1 (w := w) (G := G) (h c (List.mem_of_getElem? hc))
      have : ((cs.map conc1).toArray).getD i undef = conc1 c := by
        obtain ⟨hi, rfl⟩ := List.getElem?_eq_some_iff.1 hc
        simp [Array.getD, hi]
      rw [this]
      exact h1
  | int k n => exact .int _ _
  | bool b => exact .bool _
  | _ => simp [flat2, flat1] at h
theorem conc1_of {x : V} {v : Value} (h : flat1 x = true) (r : Rd w G x v) : v = conc1 x := by
  cases x <;> simp [flat1] at h
  · cases r; rfl
  · cases r; rfl
theorem conc2_of {x : V} {v : Value} (h : flat2 x = true) (r : Rd w G x v) : v = conc2 x := by
  cases x with
  | agg cs =>
    simp only [flat2, List.all_eq_true] at h
    cases r with
    | agg _ vs hl _ hr =>
      simp only [conc2, Value.agg.injEq]
      apply Array.ext
      · simpa using hl
      · intro i h1 h2
        have hi : i < cs.length := by omega
        have hc : cs[i]? = some cs[i] := List.getElem?_eq_getElem hi
        have := conc1_of (h _ (List.getElem_mem hi)) (hr i _ hc)
        simp [Array.getD, h1] at this
        simpa using this
  | int k n => cases r; rfl
  | bool b => cases r; rfl
  | _ => simp [flat2, flat1] at h
theorem conc3_of {x : V} {v : Value} (h : flat3 x = true) (r : Rd w G x v) : v = conc3 x := by
  cases x with
  | tup cs =>
    simp only [flat3, List.all_eq_true] at h
    cases r with
    | tup _ vs hl hr =>
      simp only [conc3, Value.tuple.injEq]
      apply Array.ext
      · simpa using hl
      · intro i h1 h2
        have hi : i < cs.length := by omega
        have hc : cs[i]? = some cs[i] := List.getElem?_eq_getElem hi
        have := conc2_of (h _ (List.getElem_mem hi)) (hr i _ hc)
        simp [Array.getD, h1] at this
        simpa using this
  | agg cs => exact conc2_of (x := .agg cs) h r
  | int k n => cases r; rfl
  | bool b => cases r; rfl
  | _ => simp [flat3, flat2, flat1] at h
/-- a contract on plain values, as a call -/
theorem calls_flat {P : Program} {f : FuncId} {fr : Bool} {args : List V} {r : V} (h : VC P f fr args r) (ha : args.all flat2 = true) (hr : flat3 r = true) (w : World) :
    Calls P f (args.map conc2).toArray w fun e w' => e = .returned (conc3 r) ∧ Below w.heap.size w w' := by
  simp only [List.all_eq_true] at ha
  refine Calls.mono (h.2 w (fun _ => False) _ (by simp) (by simp) ?_) ?_
  · intro i x hx
    obtain ⟨hi, rfl⟩ := List.getElem?_eq_some_iff.1 hx
    have : ((args.map conc2).toArray).getD i undef = conc2 args[i] := by simp [Array.getD, hi]
    rw [this]
    exact rd_conc2 (ha _ (List.getElem_mem hi))
  · rintro e w' ⟨v, rfl, hb, hv⟩
    exact ⟨by rw [conc3_of hr hv], hb⟩
def lyA (l : Ly) : Value := .agg #[.int .u64 l.base, .int .i64 l.cap, .int .i64 l.to, .int .i64 l.low, .int .i64 l.high, .int .i64 l.old, .int .i64 l.far]
theorem rightL_calls {l : Ly} (hl : l.fits) (w : World) : Calls Try.prog 55 #[lyA l] w fun e w' => e = .returned (.bool (rightL l)) ∧ Below w.heap.size w w' :=
  calls_flat (rightL_vc hl) rfl rfl w
theorem roomL_calls {l : Ly} (hl : l.fits) (w : World) : Calls Try.prog 61 #[lyA l] w fun e w' => e = .returned (.int .i64 (roomL l)) ∧ Below w.heap.size w w' :=
  calls_flat (roomL_vc hl) rfl rfl w
theorem addrL_calls {l : Ly} (hl : l.fits) (part at_ : Int) (w : World) : Calls Try.prog 39 #[lyA l, .agg #[.int .i64 part, .int .i64 at_]] w fun e w' => e = .returned (.tuple #[.int .u64 (addrL l part at_).1, .int .i64 (addrL l part at_).2]) ∧ Below w.heap.size w w' :=
  calls_flat (addrL_vc hl) rfl rfl w
theorem findL_calls {l : Ly} (hl : l.fits) {a : Int} (ha : U64 a) (w : World) : Calls Try.prog 58 #[lyA l, .int .u64 a] w fun e w' => e = .returned (.tuple #[.agg #[.int .i64 (findL l a).1, .int .i64 (findL l a).2.1], .int .i64 (findL l a).2.2]) ∧ Below w.heap.size w w' :=
  calls_flat (findL_vc hl ha) rfl rfl w
theorem adr_calls {x : Int} (hx : U64 x) (w : World) : Calls Try.prog 57 #[.int .u64 x] w fun e w' => e = .returned (.tuple #[.int .u64 (adr x).1, .int .i64 (adr x).2]) ∧ Below w.heap.size w w' :=
  calls_flat (adr_vc hx) rfl rfl w
theorem ptrTo_calls {x : Int} (hx : U64 x) (w : World) : Calls Try.prog 40 #[.int .u64 x] w fun e w' => e = .returned (.tuple #[.int .u64 (ptrTo x).1, .int .i64 (ptrTo x).2]) ∧ Below w.heap.size w w' :=
  calls_flat (ptrTo_vc hx) rfl rfl w
theorem unpk_calls {x : Int} (hx : U64 x) (w : World) : Calls Try.prog 60 #[.int .u64 x] w fun e w' => e = .returned (.tuple #[.agg #[.int .i64 (unpk x).1, .int .i64 (unpk x).2.1], .int .i64 (unpk x).2.2]) ∧ Below w.heap.size w w' :=
  calls_flat (unpk_vc hx) rfl rfl w
/-- the layout of a heap whose lists can be read -/
theorem Layout_calls {h : Hp} {x : Nat → Value} (hG : ∀ b, G b → b < w.heap.size) (hr : ∀ j, j < 5 → Rd w G (.sl ((lsH h j).map vu)) (x j)) :
    Calls Try.prog 54 #[hpA h x] w fun e w' => e = .returned (lyA (layH h)) ∧ Below w.heap.size w w' := by
  refine Calls.mono ((Layout_vc (h := h)).2 w G _ hG rfl ?_) ?_
  · intro i y hy
    match i, hy with
    | 0, hy =>
      cases hy
      refine .agg _ _ rfl (by simp [V.one]) ?_
      intro i y hy
      match i, hy with
      | 0, hy => cases hy; exact .int _ _
      | 1, hy => cases hy; exact .int _ _
      | 2, hy => cases hy; exact .int _ _
      | 3, hy => cases hy; exact .bool _
      | 4, hy => cases hy; exact .int _ _
      | 5, hy => cases hy; exact hr 0 (by omega)
      | 6, hy => cases hy; exact hr 1 (by omega)
      | 7, hy => cases hy; exact hr 2 (by omega)
      | 8, hy => cases hy; exact hr 3 (by omega)
      | 9, hy => cases hy; exact hr 4 (by omega)
  · rintro e w' ⟨v, rfl, hb, hv⟩
    exact ⟨by rw [conc3_of (by rfl) hv]; rfl, hb⟩
end Vm
