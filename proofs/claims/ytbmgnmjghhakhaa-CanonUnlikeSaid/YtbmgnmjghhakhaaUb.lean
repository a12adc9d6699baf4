/-
  What arguments of these types are: raw nodes, graphs.
-/
import Derived.Test.YtbmgnmjghhakhaaUa
import Derived.Test.YtbmgnmjghhakhaaW1
namespace Vm
open Go Go.Proofs
set_option linter.unusedSimpArgs false
set_option linter.unusedVariables false
set_option maxRecDepth 100000
theorem i64_fit {n : Int} (h1 : IntKind.i64.min ≤ n) (h2 : n ≤ IntKind.i64.max) : Fit n := ⟨h1, h2⟩
theorem ty_vi {n : Nat} {x : V} (h : tyV Try.prog (n + 1) 3 x) : ∃ m, x = vi m ∧ Fit m := by
  obtain ⟨m, rfl, h1, h2⟩ := ty_int Try.underlying3 h
  exact ⟨m, rfl, h1, h2⟩
theorem ty_vu {n : Nat} {x : V} (h : tyV Try.prog (n + 1) 28 x) : ∃ m, x = vu m ∧ 0 ≤ m ∧ m < 18446744073709551616 := by
  obtain ⟨m, rfl, h1, h2⟩ := ty_int Try.underlying28 h
  exact ⟨m, rfl, h1, Int.lt_of_le_of_lt h2 (by decide)⟩
theorem ty_vis {n : Nat} {x : V} (h : tyV Try.prog (n + 2) 23 x) : ∃ l : List Int, x = .sl (l.map vi) ∧ l.length ≤ maxLen ∧ ∀ p ∈ l, Fit p :=
  ty_slice Try.underlying23 h fun y hy => ty_vi hy
def U64 (p : Int) : Prop := 0 ≤ p ∧ p < 18446744073709551616
theorem ty_vus {n : Nat} {x : V} (h : tyV Try.prog (n + 2) 30 x) : ∃ l : List Int, x = .sl (l.map vu) ∧ l.length ≤ maxLen ∧ ∀ p ∈ l, U64 p :=
  ty_slice Try.underlying30 h fun y hy => ty_vu hy
def Nd.fits (x : Nd) : Prop := (x.ptrs.length ≤ maxLen ∧ ∀ p ∈ x.ptrs, Fit p) ∧ x.data.length ≤ maxLen ∧ ∀ p ∈ x.data, U64 p
theorem ty_raw {n : Nat} {x : V} (h : tyV Try.prog (n + 3) 65 x) : ∃ a : Nd, x = ndV a ∧ a.fits := by
  obtain ⟨ys, rfl, hl, hf⟩ := ty_struct Try.underlying65 h
  match ys, hl with
  | [a, b], _ =>
    obtain ⟨ps, rfl, h1, h2⟩ := ty_vis (hf 0 _ a rfl rfl)
    obtain ⟨ds, rfl, h3, h4⟩ := ty_vus (hf 1 _ b rfl rfl)
    exact ⟨⟨ps, ds⟩, rfl, ⟨h1, h2⟩, h3, h4⟩
theorem ty_raws {n : Nat} {x : V} (h : tyV Try.prog (n + 4) 26 x) : ∃ l : List Nd, x = .sl (l.map ndV) ∧ l.length ≤ maxLen ∧ ∀ a ∈ l, a.fits :=
  ty_slice Try.underlying26 h fun y hy => ty_raw hy
theorem own : ownKnob Try.prog.godebug = none := by kernel_rfl
theorem laidOut : laidOutB Try.prog = true := by kernel_rfl
end Vm
