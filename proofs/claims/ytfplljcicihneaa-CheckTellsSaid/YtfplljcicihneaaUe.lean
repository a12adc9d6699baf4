/-
  What arguments of these types are: heaps, truth values.
-/
import Derived.Test.YtfplljcicihneaaUd
import Derived.Test.YtfplljcicihneaaOb
namespace Vm
open Go Go.Proofs
set_option linter.unusedSimpArgs false
set_option linter.unusedVariables false
set_option maxRecDepth 100000
theorem ty_bo {n : Nat} {x : V} (h : tyV Try.prog (n + 1) 4 x) : ∃ b, x = .bool b :=
  ty_bool Try.underlying4 h
theorem ty_hp {n : Nat} {x : V} (h : tyV Try.prog (n + 3) 31 x) : ∃ r : Hp, x = hpV r ∧ r.raw := by
  obtain ⟨ys, rfl, hl, hf⟩ := ty_struct Try.underlying31 h
  match ys, hl with
  | [a, b, c, d, e, f, g, i, j, k], _ =>
    obtain ⟨a, rfl, h0⟩ := ty_vu (hf 0 _ a rfl rfl)
    obtain ⟨b, rfl, h1⟩ := ty_vi (hf 1 _ b rfl rfl)
    obtain ⟨c, rfl, h2⟩ := ty_vi (hf 2 _ c rfl rfl)
    obtain ⟨d, rfl⟩ := ty_bo (hf 3 _ d rfl rfl)
    obtain ⟨e, rfl, h4⟩ := ty_vi (hf 4 _ e rfl rfl)
    obtain ⟨f, rfl, l5, h5⟩ := ty_vus (hf 5 _ f rfl rfl)
    obtain ⟨g, rfl, l6, h6⟩ := ty_vus (hf 6 _ g rfl rfl)
    obtain ⟨i, rfl, l7, h7⟩ := ty_vus (hf 7 _ i rfl rfl)
    obtain ⟨j, rfl, l8, h8⟩ := ty_vus (hf 8 _ j rfl rfl)
    obtain ⟨k, rfl, l9, h9⟩ := ty_vus (hf 9 _ k rfl rfl)
    unfold maxLen at l5 l6 l7 l8 l9
    refine ⟨⟨a, b, c, d, e, f, g, i, j, k⟩, rfl, h0, h1, h2, h4, fun q => ?_, l9, fun q => ?_, h9⟩
    · unfold partH
      split
      · exact l5
      split
      · exact l6
      split
      · exact l7
      · exact l8
    · unfold partH
      split
      · exact h5
      split
      · exact h6
      split
      · exact h7
      · exact h8
end Vm
