/-
  That layer 8 is awake.
-/
import Derived.Test.YtbmgnmjghhakhaaDk
import Derived.Test.YtbmgnmjghhakhaaW2
import Derived.Test.YtbmgnmjghhakhaaWh
import Derived.Test.YtbmgnmjghhakhaaGi
namespace Vm
open Go Go.Proofs
set_option linter.unusedSimpArgs false
set_option linter.unusedVariables false
set_option maxRecDepth 100000
def e0 : Gr := ⟨[], [-1]⟩
def e1 : Gr := ⟨[⟨[-1], [0]⟩], [0]⟩
def e2 : Gr := ⟨[⟨[0], [0]⟩], [0]⟩
def e3 : Gr := ⟨[⟨[0], [9]⟩], [0]⟩
def e4 : Gr := ⟨[⟨[0], [9]⟩], [-1]⟩
def e5 : Gr := ⟨[], [0]⟩
theorem dov {g : Gr} {a : Ac} {r : Int × Gr × Int} (h : doR g a = r) (hg : g.sm) : VC Try.prog 35 false [grV g, acV a] (doV r) := by
  rw [← h]; exact do_vc hg
theorem awake8_vc : VC Try.prog 31 false [] (.bool true) := by
  refine vc_of_wp Try.func31 follows (by kernel_rfl) c31 rfl ?_
  have s0 : e0.sm := ⟨by decide, by decide, by decide⟩
  have s1 : e1.sm := ⟨by decide, by decide, by decide⟩
  have s2 : e2.sm := ⟨by decide, by decide, by decide⟩
  have s3 : e3.sm := ⟨by decide, by decide, by decide⟩
  have s4 : e4.sm := ⟨by decide, by decide, by decide⟩
  have s5 : e5.sm := ⟨by decide, by decide, by decide⟩
  have h1 := dov (show doR e0 ⟨1, 0, 0, 0, 2, 1, 0⟩ = (0, e1, 0) by decide) s0
  have h2 := dov (show doR e1 ⟨4, 0, 0, 0, 0, 0, 0⟩ = (0, e2, 0) by decide) s1
  have h3 := dov (show doR e2 ⟨5, 0, 0, 0, 0, 0, 9⟩ = (0, e3, 0) by decide) s2
  have h4 := dov (show doR e3 ⟨3, 0, 0, 0, 0, 0, 0⟩ = (9, e3, 0) by decide) s3
  have h5 := dov (show doR e3 ⟨3, 0, 0, 1, 0, 0, 0⟩ = (0, noGr, 1) by decide) s3
  have h6 := dov (show doR e3 ⟨8, 0, 0, 0, 0, 0, 0⟩ = (0, noGr, 1) by decide) s3
  have h7 := dov (show doR e3 ⟨7, 0, 0, 0, 0, 0, 0⟩ = (0, e4, 0) by decide) s3
  have h8 := dov (show doR e4 ⟨2, 0, 0, 0, 0, 0, 0⟩ = (0, noGr, 6) by decide) s4
  have h9 := Same_vc (a := e3) (b := e3) s3
  have h10 := right_vc s3
  have h11 := right_vc s5
  have h12 := Words_vc s3
  rw [show right e3 = true by decide] at h10
  rw [show right e5 = false by decide] at h11
  rw [show words e3 = 3 by decide] at h12
  simp [p31]
  refine callW_of h1 (by simp [grV, acV, e0]) ?_
  simp [doV]
  refine callW_of h2 (by simp [grV, acV, e1]) ?_
  simp [doV]
  refine callW_of h3 (by simp [grV, acV]) ?_
  simp [doV]
  refine callW_of h4 (by simp [grV, acV]) ?_
  simp [doV]
  refine callW_of h5 (by simp [grV, acV]) ?_
  simp [doV]
  refine callW_of h6 (by simp [grV, acV]) ?_
  simp [doV]
  refine callW_of h7 (by simp [grV, acV]) ?_
  simp [doV]
  refine callW_of h8 (by simp [grV, acV]) ?_
  simp [doV]
  refine callW_of h9 (by simp [grV]) ?_
  simp
  refine callW_of h10 (by simp) ?_
  simp
  refine callW_of h12 (by simp) ?_
  simp
  refine callW_of h11 (by simp) ?_
  simp
end Vm
