/-
  More of what acts do to right graphs: stores, loads, new nodes.
-/
import Derived.Test.YtbmgnmjghhakhaaWs
namespace Vm
open Go Go.Proofs
set_option linter.unusedSimpArgs false
set_option linter.unusedVariables false
set_option maxRecDepth 100000
theorem do_store {g : Gr} (hr : right g = true) {a b i z p v : Int} (ha : isRt g a = true) (hb : isRt g b = true) {x : Nat} {n : Nd} (h : rt g b = (x : Int)) (hx : g.nodes[x]? = some n) (h0 : 0 ≤ i) (h1 : i < (n.ptrs.length : Int)) : doR g ⟨4, a, b, i, z, p, v⟩ = (0, turned g x ⟨n.ptrs.set i.toNat (rt g a), n.data⟩, 0) := by
  simp [doR, hr, namesR, ha, hb, slotR, h, hx, show ¬ i < 0 by omega, show ¬ ((n.ptrs.length : Int) ≤ i) by omega]
theorem do_store_arg {g : Gr} (hr : right g = true) {a b i z p v : Int} (ha : isRt g a = true) (hb : isRt g b = true) {x : Nat} {n : Nd} (h : rt g b = (x : Int)) (hx : g.nodes[x]? = some n) (hi : i < 0 ∨ (n.ptrs.length : Int) ≤ i) : doR g ⟨4, a, b, i, z, p, v⟩ = (0, noGr, 1) := by
  simp [doR, hr, namesR, ha, hb, slotR, h, hx, hi]
theorem do_load {g : Gr} (hr : right g = true) {a b i z p v : Int} (ha : isRt g a = true) (hb : isRt g b = true) {x : Nat} {n : Nd} (h : rt g b = (x : Int)) (hx : g.nodes[x]? = some n) (h0 : 0 ≤ i) (h1 : i < (n.ptrs.length : Int)) : doR g ⟨2, a, b, i, z, p, v⟩ = (0, rooted g a ((n.ptrs[i.toNat]?).getD 0), 0) := by
  simp [doR, hr, namesR, ha, hb, slotR, h, hx, show ¬ i < 0 by omega, show ¬ ((n.ptrs.length : Int) ≤ i) by omega]
theorem do_new {g : Gr} (hr : right g = true) {a b i z p v : Int} (ha : isRt g a = true) (hs : shapeOk z p = true) : doR g ⟨1, a, b, i, z, p, v⟩ = (0, ⟨g.nodes ++ [freshNd z p], g.roots.set a.toNat g.nodes.length⟩, 0) := by
  simp [doR, hr, namesR, ha, hs]
theorem right_new {g : Gr} (hr : right g = true) {z p : Int} (hs : shapeOk z p = true) (r : Nat) : right ⟨g.nodes ++ [freshNd z p], g.roots.set r g.nodes.length⟩ = true := by
  obtain ⟨h1, h2, h3, h4⟩ := shapeOk_iff.1 hs
  refine right_more hr (by simp [freshNd]; omega) fun x hx => ?_
  simp [freshNd] at hx
  exact hx.2
def newGr (g : Gr) (a : Nat) (z p : Int) : Gr := ⟨g.nodes ++ [freshNd z p], g.roots.set a g.nodes.length⟩
theorem newGr_rt {g : Gr} {a : Nat} {z p : Int} (ha : a < g.roots.length) : rt (newGr g a z p) a = (g.nodes.length : Int) := by
  simp [rt, newGr, ha]
theorem newGr_at {g : Gr} {a : Nat} {z p : Int} : (newGr g a z p).nodes[g.nodes.length]? = some (freshNd z p) := by
  simp [newGr]
theorem newGr_isRt {g : Gr} {a : Nat} {z p s : Int} : isRt (newGr g a z p) s = isRt g s := by simp [isRt, newGr]
theorem do_newGr {g : Gr} (hr : right g = true) {a : Nat} {b i z p v : Int} (ha : isRt g a = true) (hs : shapeOk z p = true) : doR g ⟨1, a, b, i, z, p, v⟩ = (0, newGr g a z p, 0) := by
  rw [do_new hr ha hs]; rfl
end Vm
