/-
  What arguments of these types are: graphs, acts, arrays of numbers.
-/
import Derived.Test.YtbmgnmjghhakhaaUb
import Derived.Test.YtbmgnmjghhakhaaW3
namespace Vm
open Go Go.Proofs
set_option linter.unusedSimpArgs false
set_option linter.unusedVariables false
set_option maxRecDepth 100000
theorem ty_nd {n : Nat} {x : V} (h : tyV Try.prog (n + 3) 32 x) : ∃ a : Nd, x = ndV a ∧ a.fits := by
  obtain ⟨ys, rfl, hl, hf⟩ := ty_struct Try.underlying32 h
  match ys, hl with
  | [a, b], _ =>
    obtain ⟨ps, rfl, h1, h2⟩ := ty_vis (hf 0 _ a rfl rfl)
    obtain ⟨ds, rfl, h3, h4⟩ := ty_vus (hf 1 _ b rfl rfl)
    exact ⟨⟨ps, ds⟩, rfl, ⟨h1, h2⟩, h3, h4⟩
theorem ty_nds {n : Nat} {x : V} (h : tyV Try.prog (n + 4) 22 x) : ∃ l : List Nd, x = .sl (l.map ndV) ∧ l.length ≤ maxLen ∧ ∀ a ∈ l, a.fits :=
  ty_slice Try.underlying22 h fun y hy => ty_nd hy
def Gr.fits (g : Gr) : Prop := (g.nodes.length ≤ maxLen ∧ ∀ a ∈ g.nodes, a.fits) ∧ g.roots.length ≤ maxLen ∧ ∀ p ∈ g.roots, Fit p
theorem ty_graph {n : Nat} {x : V} (h : tyV Try.prog (n + 5) 25 x) : ∃ g : Gr, x = grV g ∧ g.fits := by
  obtain ⟨ys, rfl, hl, hf⟩ := ty_struct Try.underlying25 h
  match ys, hl with
  | [a, b], _ =>
    obtain ⟨ns, rfl, h1, h2⟩ := ty_nds (hf 0 _ a rfl rfl)
    obtain ⟨rs, rfl, h3, h4⟩ := ty_vis (hf 1 _ b rfl rfl)
    exact ⟨⟨ns, rs⟩, rfl, ⟨h1, h2⟩, h3, h4⟩
theorem flat_vis (l : List Int) : flat (l.map vi) = l.map vi := by
  induction l with
  | nil => rfl
  | cons a l ih => rw [List.map_cons, flat_cons, ih]; rfl
theorem ty_i5 {n : Nat} {x : V} (h : tyV Try.prog (n + 2) 27 x) : ∃ l : List Int, x = .agg (l.map vi) ∧ l.length = 5 ∧ ∀ p ∈ l, Fit p := by
  obtain ⟨ys, rfl, hl, hf⟩ := ty_array Try.underlying27 h
  obtain ⟨l, rfl, h1⟩ := list_of (enc := vi) (Q := Fit) fun y hy => ty_vi (hf y hy)
  exact ⟨l, by rw [flat_vis], by simpa using hl, h1⟩
theorem ty_i5s {n : Nat} {x : V} (h : tyV Try.prog (n + 3) 60 x) : ∃ l : List (List Int), x = .sl (l.map fun a => .agg (a.map vi)) ∧ l.length ≤ maxLen ∧ ∀ a ∈ l, a.length = 5 ∧ ∀ p ∈ a, Fit p :=
  ty_slice Try.underlying60 h fun y hy => ty_i5 hy
def Ac.fits (a : Ac) : Prop := Fit a.kind ∧ Fit a.r ∧ Fit a.s ∧ Fit a.i ∧ Fit a.size ∧ Fit a.ptrs ∧ U64 a.v
theorem ty_act {n : Nat} {x : V} (h : tyV Try.prog (n + 3) 41 x) : ∃ a : Ac, x = acV a ∧ a.fits := by
  obtain ⟨ys, rfl, hl, hf⟩ := ty_struct Try.underlying41 h
  match ys, hl with
  | [a, b, c, d, e, f], _ =>
    obtain ⟨a, rfl, ha⟩ := ty_vi (hf 0 _ a rfl rfl)
    obtain ⟨b, rfl, hb⟩ := ty_vi (hf 1 _ b rfl rfl)
    obtain ⟨c, rfl, hc⟩ := ty_vi (hf 2 _ c rfl rfl)
    obtain ⟨d, rfl, hd⟩ := ty_vi (hf 3 _ d rfl rfl)
    obtain ⟨f, rfl, hff⟩ := ty_vu (hf 5 _ f rfl rfl)
    obtain ⟨zs, rfl, hz, hfz⟩ := ty_struct Try.underlying39 (hf 4 _ e rfl rfl)
    match zs, hz with
    | [z, p], _ =>
      obtain ⟨z, rfl, hz1⟩ := ty_vi (hfz 0 _ z rfl rfl)
      obtain ⟨p, rfl, hp⟩ := ty_vi (hfz 1 _ p rfl rfl)
      exact ⟨⟨a, b, c, d, z, p, f⟩, rfl, ha, hb, hc, hd, hz1, hp, hff⟩
end Vm
