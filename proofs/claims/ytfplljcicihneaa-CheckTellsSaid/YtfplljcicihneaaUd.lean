/-
  What arguments of these types are: raw heaps, lists and arrays of numbers.
-/
import Derived.Test.YtfplljcicihneaaUa
import Derived.Test.YtfplljcicihneaaB5
import Derived.Test.YtfplljcicihneaaC5
namespace Vm
open Go Go.Proofs
set_option linter.unusedSimpArgs false
set_option linter.unusedVariables false
set_option maxRecDepth 100000
theorem ty_vi {n : Nat} {x : V} (h : tyV Try.prog (n + 1) 3 x) : ∃ m, x = vi m ∧ Fit m := by
  obtain ⟨m, rfl, h1, h2⟩ := ty_int Try.underlying3 h
  exact ⟨m, rfl, h1, h2⟩
theorem ty_vu {n : Nat} {x : V} (h : tyV Try.prog (n + 1) 24 x) : ∃ m, x = vu m ∧ U64 m := by
  obtain ⟨m, rfl, h1, h2⟩ := ty_int Try.underlying24 h
  exact ⟨m, rfl, h1, Int.lt_of_le_of_lt h2 (by decide)⟩
theorem ty_vis {n : Nat} {x : V} (h : tyV Try.prog (n + 2) 23 x) : ∃ l : List Int, x = .sl (l.map vi) ∧ l.length ≤ maxLen ∧ ∀ p ∈ l, Fit p :=
  ty_slice Try.underlying23 h fun y hy => ty_vi hy
theorem ty_vus {n : Nat} {x : V} (h : tyV Try.prog (n + 2) 28 x) : ∃ l : List Int, x = .sl (l.map vu) ∧ l.length ≤ maxLen ∧ ∀ p ∈ l, U64 p :=
  ty_slice Try.underlying28 h fun y hy => ty_vu hy
def Nd.fits (x : Nd) : Prop := (x.ptrs.length ≤ maxLen ∧ ∀ p ∈ x.ptrs, Fit p) ∧ x.data.length ≤ maxLen ∧ ∀ p ∈ x.data, U64 p
theorem ty_raw {n : Nat} {x : V} (h : tyV Try.prog (n + 3) 161 x) : ∃ a : Nd, x = ndV a ∧ a.fits := by
  obtain ⟨ys, rfl, hl, hf⟩ := ty_struct Try.underlying161 h
  match ys, hl with
  | [a, b], _ =>
    obtain ⟨ps, rfl, h1, h2⟩ := ty_vis (hf 0 _ a rfl rfl)
    obtain ⟨ds, rfl, h3, h4⟩ := ty_vus (hf 1 _ b rfl rfl)
    exact ⟨⟨ps, ds⟩, rfl, ⟨h1, h2⟩, h3, h4⟩
theorem ty_raws {n : Nat} {x : V} (h : tyV Try.prog (n + 4) 22 x) : ∃ l : List Nd, x = .sl (l.map ndV) ∧ l.length ≤ maxLen ∧ ∀ a ∈ l, a.fits :=
  ty_slice Try.underlying22 h fun y hy => ty_raw hy
theorem ty_rw {n : Nat} {x : V} (h : tyV Try.prog (n + 5) 26 x) : ∃ r : Rw, x = rwV r ∧ r.ok := by
  obtain ⟨ys, rfl, hl, hf⟩ := ty_struct Try.underlying26 h
  match ys, hl with
  | [a, b, c, d, e, f, g], _ =>
    obtain ⟨ns, rfl, _, h0⟩ := ty_raws (hf 0 _ a rfl rfl)
    obtain ⟨rs, rfl, _, h1⟩ := ty_vis (hf 1 _ b rfl rfl)
    obtain ⟨cs, rfl, _, h2⟩ := ty_vis (hf 2 _ c rfl rfl)
    obtain ⟨d, rfl, h3⟩ := ty_vu (hf 3 _ d rfl rfl)
    obtain ⟨e, rfl, h4⟩ := ty_vi (hf 4 _ e rfl rfl)
    obtain ⟨f, rfl, h5⟩ := ty_vi (hf 5 _ f rfl rfl)
    obtain ⟨g, rfl, h6⟩ := ty_vi (hf 6 _ g rfl rfl)
    exact ⟨⟨ns, rs, cs, d, e, f, g⟩, rfl, fun n hn p hp => (h0 n hn).1.2 p hp, fun n hn p hp => (h0 n hn).2.2 p hp, h1, h2, h3, h4, h5, h6⟩
theorem ty_i6 {n : Nat} {x : V} (h : tyV Try.prog (n + 2) 27 x) : ∃ a b c d e f : Int, x = i6V a b c d e f ∧ Fit a ∧ Fit b ∧ Fit c ∧ Fit d ∧ Fit e ∧ Fit f := by
  obtain ⟨ys, rfl, hl, hy⟩ := ty_array Try.underlying27 h
  match ys, hl with
  | [a, b, c, d, e, f], _ =>
    obtain ⟨a, rfl, ha⟩ := ty_vi (hy a (by simp))
    obtain ⟨b, rfl, hb⟩ := ty_vi (hy b (by simp))
    obtain ⟨c, rfl, hc⟩ := ty_vi (hy c (by simp))
    obtain ⟨d, rfl, hd⟩ := ty_vi (hy d (by simp))
    obtain ⟨e, rfl, he⟩ := ty_vi (hy e (by simp))
    obtain ⟨f, rfl, hf⟩ := ty_vi (hy f (by simp))
    exact ⟨a, b, c, d, e, f, rfl, ha, hb, hc, hd, he, hf⟩
theorem own : ownKnob Try.prog.godebug = none := by kernel_rfl
theorem laidOut : laidOutB Try.prog = true := by kernel_rfl
end Vm
