/-
  The law CanonAlike, as a contract of the code.
-/
import Derived.Test.YtbmgnmjghhakhaaW2
import Derived.Test.YtbmgnmjghhakhaaGe
namespace Vm
open Go Go.Proofs
set_option linter.unusedSimpArgs false
set_option linter.unusedVariables false
set_option maxRecDepth 100000
theorem Canon_vc' {g : Gr} (hg : g.sm) (hr : right g = true) : VC Try.prog 20 false [grV g] (.tup [grV (canon g), vi 0]) := by
  have h := Canon_vc hg
  unfold canonR at h
  rwa [if_pos hr] at h
theorem Moved_sm {g : Gr} (hr : right g = true) (hn : g.nodes.length ≤ 1000) (b : Int) (more : Bool) : (Moved g b more).sm := by
  have h := right_Moved hr b more
  simp only [right, Bool.and_eq_true, List.all_eq_true, decide_eq_true_eq] at h
  refine ⟨?_, by omega, fun x hx => ?_⟩
  · cases more <;> simp [Moved] <;> omega
  · have := h.1.2 x hx
    simp only [nodeOk, Bool.and_eq_true, decide_eq_true_eq] at this
    omega
theorem law4 {l m : List Nd} {roots mroots : List Int} {b : Int} (hl : ∀ x ∈ l, ∀ p ∈ x.ptrs, Fit p) (hr : ∀ p ∈ roots, Fit p) (hm : ∀ x ∈ m, ∀ p ∈ x.ptrs, Fit p) (hmr : ∀ p ∈ mroots, Fit p) (hb : Fit b) :
    VC Try.prog 4 false [.sl (l.map ndV), .sl (roots.map vi), .sl (m.map ndV), .sl (mroots.map vi), vi b] (.bool true) := by
  refine vc_of_wp Try.func4 follows (by kernel_rfl) c4 rfl ?_
  simp [p4]
  refine callW_of awake9_vc (by simp) ?_
  simp
  refine callW_of (Graph_vc hl hr) (by simp) ?_
  simp
  refine callW_of (Graph_vc hm hmr) (by simp) ?_
  have hgr := mkG_right l roots
  have hgs := mkG_sm l roots
  have hgb := mkG_bounds l roots
  rw [← mkG_nodes l roots] at hgb
  have hhr := mkG_right m mroots
  have hhs := mkG_sm m mroots
  generalize mkG l roots = g at *
  generalize mkG m mroots = h at *
  simp
  generalize hmore : decide (b.tmod 2 = 0) = more
  have hxr := right_Moved hgr b more
  have hxs := Moved_sm hgr (by omega) b more
  have hxc := canon_Moved hgr b more
  have har := right_canon hgr
  have has := canon_sm hgs hgr
  have hac := canon_canon hgr
  refine callW_of (Moved_vc hgs hgr hb) (by simp) ?_
  generalize Moved g b more = x at *
  simp
  refine callW_of (Canon_vc' hgs hgr) (by simp) ?_
  simp
  refine callW_of (Canon_vc' hhs hhr) (by simp) ?_
  simp
  refine callW_of (Canon_vc' hxs hxr) (by simp) ?_
  simp
  refine callW_of (Canon_vc' has har) (by simp) ?_
  have hgh : alike g h = decide (canon g = canon h) := by simp [alike, hgr, hhr]
  have hhg : alike h g = decide (canon g = canon h) := by simp [alike, hgr, hhr, eq_comm]
  have hgx : alike g x = true := by simp [alike, hgr, hxr, hxc]
  have hga : alike g (canon g) = true := by simp [alike, hgr, har, hac]
  simp
  refine callW_of (Alike_vc hgs hhs) (by simp) ?_
  simp
  refine callW_of (Same_vc has) (by simp) ?_
  simp [hgh]
  refine callW_of (Alike_vc hgs hhs) (by simp) ?_
  simp
  refine callW_of (Alike_vc hhs hgs) (by simp) ?_
  simp [hgh, hhg]
  refine callW_of (Alike_vc hgs hxs) (by simp) ?_
  simp [hgx]
  refine callW_of (Same_vc has) (by simp) ?_
  simp [hxc]
  refine callW_of (Same_vc has) (by simp) ?_
  simp [hac]
  refine callW_of (Alike_vc hgs has) (by simp) ?_
  simp [hga]
  refine callW_of (right_vc has) (by simp) ?_
  simp [har]
end Vm
