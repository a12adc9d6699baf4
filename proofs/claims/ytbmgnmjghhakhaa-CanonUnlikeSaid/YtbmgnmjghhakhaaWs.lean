/-
  What acts do to right graphs: plain facts.
-/
import Derived.Test.YtbmgnmjghhakhaaWr
import Derived.Test.YtbmgnmjghhakhaaW3
namespace Vm
open Go Go.Proofs
set_option linter.unusedSimpArgs false
set_option linter.unusedVariables false
set_option maxRecDepth 100000
theorem right_iff {g : Gr} : right g = true ↔ g.roots.length ≤ 16 ∧ (∀ n ∈ g.nodes, n.ptrs.length + n.data.length ≤ 255 ∧ ∀ x ∈ n.ptrs, -1 ≤ x ∧ x < (g.nodes.length : Int)) ∧ ∀ x ∈ g.roots, -1 ≤ x ∧ x < (g.nodes.length : Int) := by
  simp only [right, Bool.and_eq_true, List.all_eq_true, decide_eq_true_eq, nodeOk, inR, and_assoc]
theorem right_sm {g : Gr} (hr : right g = true) (h : g.nodes.length ≤ 100000) : g.sm := by
  obtain ⟨h1, h2, h3⟩ := right_iff.1 hr
  exact ⟨h, by omega, fun n hn => by have := (h2 n hn).1; omega⟩
theorem right_rooted {g : Gr} (hr : right g = true) {r x : Int} (hx : -1 ≤ x ∧ x < (g.nodes.length : Int)) : right (rooted g r x) = true := by
  obtain ⟨h1, h2, h3⟩ := right_iff.1 hr
  refine right_iff.2 ⟨by simpa [rooted] using h1, h2, fun y hy => ?_⟩
  rcases List.mem_or_eq_of_mem_set hy with h | rfl
  · exact h3 y h
  · exact hx
theorem right_turned {g : Gr} (hr : right g = true) {i : Int} {m : Nd} (hl : m.ptrs.length + m.data.length ≤ 255) (hp : ∀ x ∈ m.ptrs, -1 ≤ x ∧ x < (g.nodes.length : Int)) : right (turned g i m) = true := by
  obtain ⟨h1, h2, h3⟩ := right_iff.1 hr
  have hlen : (turned g i m).nodes.length = g.nodes.length := by simp [turned]
  refine right_iff.2 ⟨h1, fun y hy => ?_, fun y hy => by rw [hlen]; exact h3 y hy⟩
  rw [hlen]
  rcases List.mem_or_eq_of_mem_set hy with h | rfl
  · exact h2 y h
  · exact ⟨hl, hp⟩
theorem right_more {g : Gr} (hr : right g = true) {r : Nat} {m : Nd} (hl : m.ptrs.length + m.data.length ≤ 255) (hp : ∀ x ∈ m.ptrs, x = -1) : right ⟨g.nodes ++ [m], g.roots.set r g.nodes.length⟩ = true := by
  obtain ⟨h1, h2, h3⟩ := right_iff.1 hr
  have hlen : (g.nodes ++ [m]).length = g.nodes.length + 1 := by simp
  refine right_iff.2 ⟨by simpa using h1, fun y hy => ?_, fun y hy => ?_⟩
  · rw [hlen]
    rcases List.mem_append.1 hy with h | h
    · exact ⟨(h2 y h).1, fun x hx => by have := (h2 y h).2 x hx; omega⟩
    · simp at h
      subst h
      exact ⟨hl, fun x hx => by have := hp x hx; omega⟩
  · rw [hlen]
    rcases List.mem_or_eq_of_mem_set hy with h | rfl
    · have := h3 y h; omega
    · omega
theorem slot_cases {g : Gr} (hr : right g = true) {s : Int} (hs : isRt g s = true) : rt g s = -1 ∨ ∃ (x : Nat) (n : Nd), rt g s = (x : Int) ∧ g.nodes[x]? = some n ∧ x < g.nodes.length := by
  obtain ⟨k, hk, hkl, hrt, h0, h1⟩ := rt_in hr hs
  by_cases hx : rt g s = -1
  · exact .inl hx
  · obtain ⟨x, hxe⟩ := Int.eq_ofNat_of_zero_le (show 0 ≤ rt g s by omega)
    have hxl : x < g.nodes.length := by omega
    exact .inr ⟨x, _, hxe, List.getElem?_eq_getElem hxl, hxl⟩
theorem rt_range {g : Gr} (hr : right g = true) {s : Int} (hs : isRt g s = true) : -1 ≤ rt g s ∧ rt g s < (g.nodes.length : Int) := by
  obtain ⟨k, hk, hkl, hrt, h0, h1⟩ := rt_in hr hs
  omega
theorem rt_rooted_same {g : Gr} {r x : Int} (h : isRt g r = true) : rt (rooted g r x) r = x := by
  obtain ⟨h1, h2⟩ := isRt_iff.1 h
  have : r.toNat < g.roots.length := by omega
  simp [rt, rooted, this]
theorem rt_rooted_ne {g : Gr} {r s x : Int} (hr : isRt g r = true) (hs : isRt g s = true) (h : r ≠ s) : rt (rooted g r x) s = rt g s := by
  obtain ⟨h1, h2⟩ := isRt_iff.1 hr
  obtain ⟨h3, h4⟩ := isRt_iff.1 hs
  have : r.toNat ≠ s.toNat := by omega
  simp [rt, rooted, List.getElem?_set, this]
theorem isRt_rooted {g : Gr} {r s x : Int} : isRt (rooted g r x) s = isRt g s := by simp [isRt, rooted]
theorem isRt_turned {g : Gr} {i s : Int} {n : Nd} : isRt (turned g i n) s = isRt g s := rfl
theorem rt_turned {g : Gr} {i s : Int} {n : Nd} : rt (turned g i n) s = rt g s := by simp [rt, turned]
theorem do_assign {g : Gr} (hr : right g = true) {a b i z p v : Int} (ha : isRt g a = true) (hb : isRt g b = true) : doR g ⟨6, a, b, i, z, p, v⟩ = (0, rooted g a (rt g b), 0) := by
  simp [doR, hr, namesR, ha, hb]
theorem do_drop {g : Gr} (hr : right g = true) {a b i z p v : Int} (ha : isRt g a = true) : doR g ⟨7, a, b, i, z, p, v⟩ = (0, rooted g a (-1), 0) := by
  simp [doR, hr, namesR, ha]
theorem do_none {g : Gr} (hr : right g = true) {k a b i z p v : Int} (hk : k = 2 ∨ k = 3 ∨ k = 4 ∨ k = 5) (ha : isRt g a = true) (hb : isRt g b = true) (h : rt g b = -1) : doR g ⟨k, a, b, i, z, p, v⟩ = (0, noGr, 6) := by
  rcases hk with rfl | rfl | rfl | rfl <;> simp [doR, hr, namesR, ha, hb, slotR, h]
theorem do_set {g : Gr} (hr : right g = true) {a b i z p v : Int} (hb : isRt g b = true) {x : Nat} {n : Nd} (h : rt g b = (x : Int)) (hx : g.nodes[x]? = some n) (h0 : 0 ≤ i) (h1 : i < (n.data.length : Int)) : doR g ⟨5, a, b, i, z, p, v⟩ = (0, turned g x ⟨n.ptrs, n.data.set i.toNat v⟩, 0) := by
  simp [doR, hr, namesR, hb, slotR, h, hx, show ¬ i < 0 by omega, show ¬ ((n.data.length : Int) ≤ i) by omega]
theorem do_set_arg {g : Gr} (hr : right g = true) {a b i z p v : Int} (hb : isRt g b = true) {x : Nat} {n : Nd} (h : rt g b = (x : Int)) (hx : g.nodes[x]? = some n) (hi : i < 0 ∨ (n.data.length : Int) ≤ i) : doR g ⟨5, a, b, i, z, p, v⟩ = (0, noGr, 1) := by
  simp [doR, hr, namesR, hb, slotR, h, hx, hi]
theorem do_get {g : Gr} (hr : right g = true) {a b i z p v : Int} (hb : isRt g b = true) {x : Nat} {n : Nd} (h : rt g b = (x : Int)) (hx : g.nodes[x]? = some n) (h0 : 0 ≤ i) (h1 : i < (n.data.length : Int)) : doR g ⟨3, a, b, i, z, p, v⟩ = ((n.data[i.toNat]?).getD 0, g, 0) := by
  simp [doR, hr, namesR, hb, slotR, h, hx, show ¬ i < 0 by omega, show ¬ ((n.data.length : Int) ≤ i) by omega]
end Vm
