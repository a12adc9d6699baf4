/-
  Package check, whole; layer 11's examples.
-/
import Derived.Test.YtfplljcicihneaaN2
import Derived.Test.YtfplljcicihneaaHl
namespace Vm
open Go Go.Proofs
set_option linter.unusedSimpArgs false
set_option linter.unusedVariables false
set_option maxRecDepth 100000
set_option maxHeartbeats 1000000
theorem CR_vc {h : Hp} (hh : h.ok) : VC Try.prog 30 false [hpV h] (.bool (rightR h)) := by
  rw [← (look_right h).1]
  exact CRight_vc Walk_ok WalkOld_ok hh
theorem CO_vc {h : Hp} (hh : h.ok) {k : Int} : VC Try.prog 34 false [hpV h, vi k] (.tup [.sl ((objsR h k).1.map obV), vi (objsR h k).2]) := by
  rw [← look_objs h k]
  exact CObjects_vc Walk_ok WalkOld_ok hh
theorem CW_vc {h : Hp} (hh : h.ok) : VC Try.prog 32 false [hpV h] (vi (waitH h)) := by
  rw [← look_wait h]
  exact CWaiting_vc Walk_ok WalkOld_ok hh
def ex1 : Hp := ⟨10, 5, 0, false, 2, [2, 6], [], [], [], [21]⟩
def ex2 : Hp := ⟨10, 5, 0, false, 2, [2, 6], [], [], [], [23]⟩
def ex3 : Hp := ⟨10, 5, 1, true, 0, [2, 6], [], [31, 0], [], [31]⟩
def ex4 : Hp := ⟨10, 5, 1, true, 0, [2, 6], [], [31, 0], [0], [31]⟩
theorem ex1_ok : ex1.ok := by refine ⟨?_, ?_, ?_, ?_, ?_, ?_, ?_, ?_, ?_, ?_, ?_, ?_, ?_, ?_⟩ <;> simp [ex1, U64, Fit]
theorem ex2_ok : ex2.ok := by refine ⟨?_, ?_, ?_, ?_, ?_, ?_, ?_, ?_, ?_, ?_, ?_, ?_, ?_, ?_⟩ <;> simp [ex2, U64, Fit]
theorem ex3_ok : ex3.ok := by refine ⟨?_, ?_, ?_, ?_, ?_, ?_, ?_, ?_, ?_, ?_, ?_, ?_, ?_, ?_⟩ <;> simp [ex3, U64, Fit]
theorem ex4_ok : ex4.ok := by refine ⟨?_, ?_, ?_, ?_, ?_, ?_, ?_, ?_, ?_, ?_, ?_, ?_, ?_, ?_⟩ <;> simp [ex4, U64, Fit]
theorem awake11_vc : VC Try.prog 26 false [] (.bool true) := by
  refine vc_of_wp Try.func26 follows (by kernel_rfl) c26 rfl ?_
  have hfl : flV (vi 1) = some (vi 1) := by rfl
  have r1 : rightR ex1 = true := by decide +kernel
  have r2 : rightR ex2 = false := by decide +kernel
  have r3 : rightR ex3 = true := by decide +kernel
  have r5 : rightR Hp.zero = false := by decide +kernel
  have o1 : objsR ex3 3 = ([⟨0, 1, 0, true, 15⟩], 0) := by decide +kernel
  have o2 : objsR ex3 5 = ([], 1) := by decide +kernel
  have o3 : objsR ex2 1 = ([], 1) := by decide +kernel
  have w1 : waitH ex3 = 0 := by decide +kernel
  have w2 : waitH ex4 = 1 := by decide +kernel
  have a1 := CR_vc ex1_ok
  have a2 := CR_vc ex2_ok
  have a3 := CR_vc ex3_ok
  have a5 := CR_vc Hp.zero_ok
  have b1 := CO_vc ex3_ok (k := 3)
  have b2 := CO_vc ex3_ok (k := 5)
  have b3 := CO_vc ex2_ok (k := 1)
  have c1 := CW_vc ex3_ok
  have c2 := CW_vc ex4_ok
  have s1 := same_vc (a := [⟨0, 1, 0, true, 15⟩]) (b := [⟨0, 1, 0, true, 15⟩]) (by simp) (by simp)
  rw [r1] at a1
  rw [r2] at a2
  rw [r3] at a3
  rw [r5] at a5
  rw [o1] at b1
  rw [o2] at b2
  rw [o3] at b3
  rw [w1] at c1
  rw [w2] at c2
  simp [ex1, ex2, ex3, ex4, Hp.zero, hpV, obV, flV] at a1 a2 a3 a5 b1 b2 b3 c1 c2 s1
  simp [p26]
  refine callW_of b1 (by simp [hfl]) ?_
  simp
  refine callW_of b2 (by simp [hfl]) ?_
  simp
  refine callW_of b3 (by simp [hfl]) ?_
  simp

  simp [hfl]
  refine callW_of a1 (by simp [hfl]) ?_
  simp
  refine callW_of a2 (by simp [hfl]) ?_
  simp
  refine callW_of a3 (by simp [hfl]) ?_
  simp
  refine callW_of s1 (by simp [hfl]) ?_
  simp
  refine callW_of c1 (by simp [hfl]) ?_
  simp
  refine callW_of c2 (by simp [hfl]) ?_
  simp
  refine callW_of a5 (by simp [hfl]) ?_
  simp
end Vm
