/-
  The law of the order of canon, and that its layer is awake.
-/
import Derived.Test.YtbmgnmjghhakhaaW1
namespace Vm
open Go Go.Proofs
set_option linter.unusedSimpArgs false
set_option linter.unusedVariables false
set_option maxRecDepth 100000
def g0 : Gr := ⟨[⟨[], []⟩, ⟨[], [4]⟩, ⟨[1], []⟩, ⟨[], []⟩], [2, 0]⟩
def g0c : Gr := ⟨[⟨[2], []⟩, ⟨[], []⟩, ⟨[], [4]⟩], [0, 1]⟩
def g1 : Gr := ⟨[], [0]⟩
def g2 : Gr := ⟨[], [-1, -1]⟩
theorem right_g0 : right g0 = true := by decide
theorem canon_g0 : canon g0 = g0c := by decide
theorem order_g0 : order g0 = [2, 0, 1] := by decide
theorem right_g1 : right g1 = false := by decide
theorem alike_02 : alike g0 g2 = false := by decide
theorem alike_00 : alike g0 g0c = true := by decide
theorem sm_g0 : g0.sm := ⟨by decide, by decide, by decide⟩
theorem sm_g0c : g0c.sm := ⟨by decide, by decide, by decide⟩
theorem sm_g1 : g1.sm := ⟨by decide, by decide, by decide⟩
theorem sm_g2 : g2.sm := ⟨by decide, by decide, by decide⟩
theorem awake9_vc : VC Try.prog 15 false [] (.bool true) := by
  refine vc_of_wp Try.func15 follows (by kernel_rfl) c15 rfl ?_
  have h1 := Canon_vc sm_g0
  have h2 := Canon_vc sm_g1
  have h3 := Order_vc sm_g0
  have h4 := Same_vc (b := g0c) sm_g0c
  have h5 := Alike_vc sm_g0 sm_g0c
  have h6 := Alike_vc sm_g0 sm_g2
  rw [show canonR g0 = .tup [grV g0c, vi 0] by unfold canonR; rw [if_pos right_g0, canon_g0]] at h1
  rw [show canonR g1 = .tup [grV noGr, vi 1] by unfold canonR; rw [if_neg (by rw [right_g1]; simp)]] at h2
  rw [show orderR g0 = [2, 0, 1] by unfold orderR; rw [if_pos right_g0, order_g0]] at h3
  rw [alike_00] at h5
  rw [alike_02] at h6
  have h7 := ints_vc (a := [2, 0, 1]) (b := [2, 0, 1]) (by simp)
  simp [p15]
  refine callW_of h1 (by simp) ?_
  simp [flV, V.flatc]
  refine callW_of h2 (by simp) ?_
  simp
  refine callW_of h3 (by simp) ?_
  simp
  refine callW_of h7 (by simp) ?_
  simp
  refine callW_of h4 (by simp) ?_
  simp
  refine callW_of h5 (by simp) ?_
  simp
  refine callW_of h6 (by simp) ?_
  simp
end Vm
