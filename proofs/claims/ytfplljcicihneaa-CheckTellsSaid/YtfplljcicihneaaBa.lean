/-
  Words, headers, pointers (layer 5, and the document's): what they compute.
-/
import Derived.Test.YtfplljcicihneaaWx
import Derived.Test.YtfplljcicihneaaHa
namespace Vm
open Go Go.Proofs
set_option linter.unusedSimpArgs false
set_option linter.unusedVariables false
set_option maxRecDepth 100000
def Fit (n : Int) : Prop := -9223372036854775808 ≤ n ∧ n ≤ 9223372036854775807
def U64 (n : Int) : Prop := 0 ≤ n ∧ n < 18446744073709551616
theorem wrap_u (n : Int) (h1 : 0 ≤ n) (h2 : n ≤ 18446744073709551615) : IntKind.u64.wrap n = n := by
  rw [IntKind.wrap_u64]; omega
theorem at_of {α : Type} {l : List α} {i : Nat} {x : α} (h : l[i]? = some x) : ∀ hl : i < l.length, l[i]'hl = x := fun hl => by
  rw [List.getElem?_eq_getElem hl] at h
  exact Option.some.inj h
def shapeOk (size ptrs : Int) : Bool := decide (0 ≤ size) && decide (size ≤ 255) && decide (0 ≤ ptrs) && decide (ptrs ≤ size)
theorem shapeOk_iff {s p : Int} : shapeOk s p = true ↔ 0 ≤ s ∧ s ≤ 255 ∧ 0 ≤ p ∧ p ≤ s := by simp [shapeOk, and_assoc]
theorem shapeOk_no {s p : Int} : shapeOk s p = false ↔ ¬ (0 ≤ s ∧ s ≤ 255 ∧ 0 ≤ p ∧ p ≤ s) := by rw [← shapeOk_iff]; simp
abbrev shV (s p : Int) : V := .agg [vi s, vi p]
theorem right5_vc {s p : Int} : VC Try.prog 91 false [shV s p] (.bool (shapeOk s p)) := by
  refine vc_of_wp Try.func91 follows (by kernel_rfl) c91 rfl ?_
  by_cases h1 : 0 ≤ s <;> by_cases h2 : s ≤ 255 <;> by_cases h3 : 0 ≤ p <;> by_cases h4 : p ≤ s <;> simp [p91, shapeOk, h1, h2, h3, h4]
theorem refRight5_vc {s p : Int} : VC Try.prog 102 false [shV s p] (.bool (shapeOk s p)) := by
  refine vc_of_wp Try.func102 follows (by kernel_rfl) c102 rfl ?_
  by_cases h1 : 0 ≤ s <;> by_cases h2 : s ≤ 255 <;> by_cases h3 : 0 ≤ p <;> by_cases h4 : p ≤ s <;> simp [p102, shapeOk, h1, h2, h3, h4]
/-- the address of a pointer -/
def adr (w : Int) : Int × Int := if w = 0 then (0, 6) else if w % 2 = 0 ∨ w = 1 then (0, 3) else (w / 2, 0)
theorem adr_vc {w : Int} (hw : U64 w) : VC Try.prog 57 false [vu w] (.tup [vu (adr w).1, vi (adr w).2]) := by
  refine vc_of_wp Try.func57 follows (by kernel_rfl) c57 rfl ?_
  obtain ⟨h1, h2⟩ := hw
  have e1 : w.tmod 2 = w % 2 := Int.tmod_eq_emod_of_nonneg h1
  have e2 : w.tdiv 2 = w / 2 := Int.tdiv_eq_ediv_of_nonneg h1
  have e3 := wrap_u (w / 2) (by omega) (by omega)
  by_cases h0 : w = 0
  · simp [p57, adr, h0]
  · by_cases h3 : w % 2 = 0
    · simp [p57, adr, h0, e1, h3]
    · by_cases h4 : w = 1
      · subst h4
        simp [p57, adr]
      · simp [p57, adr, h0, e1, e2, h3, h4, e3]
theorem refAdr_vc {w : Int} (hw : U64 w) : VC Try.prog 64 false [vu w] (.tup [vu (adr w).1, vi (adr w).2]) := by
  refine vc_of_wp Try.func64 follows (by kernel_rfl) c64 rfl ?_
  obtain ⟨h1, h2⟩ := hw
  have e1 : w.tmod 2 = w % 2 := Int.tmod_eq_emod_of_nonneg h1
  have e2 : w.tdiv 2 = w / 2 := Int.tdiv_eq_ediv_of_nonneg h1
  have e3 := wrap_u (w / 2) (by omega) (by omega)
  by_cases h0 : w = 0
  · simp [p64, adr, h0]
  · by_cases h3 : w % 2 = 0
    · simp [p64, adr, h0, e1, h3]
    · by_cases h4 : w = 1
      · subst h4
        simp [p64, adr]
      · simp [p64, adr, h0, e1, e2, h3, h4, e3]
/-- the pointer to an address -/
def ptrTo (a : Int) : Int × Int := if a < 1 ∨ 9223372036854775807 < a then (0, 1) else (2 * a + 1, 0)
theorem ptrTo_vc {a : Int} (hw : U64 a) : VC Try.prog 40 false [vu a] (.tup [vu (ptrTo a).1, vi (ptrTo a).2]) := by
  refine vc_of_wp Try.func40 follows (by kernel_rfl) c40 rfl ?_
  obtain ⟨h1, h2⟩ := hw
  by_cases h3 : a < 1
  · simp [p40, ptrTo, h3]
  · by_cases h4 : 9223372036854775807 < a
    · simp [p40, ptrTo, h3, h4]
    · have e1 := wrap_u (2 * a) (by omega) (by omega)
      have e2 := wrap_u (2 * a + 1) (by omega) (by omega)
      simp [p40, ptrTo, h3, h4, e1, e2]
theorem refPtrTo_vc {a : Int} (hw : U64 a) : VC Try.prog 83 false [vu a] (.tup [vu (ptrTo a).1, vi (ptrTo a).2]) := by
  refine vc_of_wp Try.func83 follows (by kernel_rfl) c83 rfl ?_
  obtain ⟨h1, h2⟩ := hw
  by_cases h3 : a < 1
  · simp [p83, ptrTo, h3]
  · by_cases h4 : 9223372036854775807 < a
    · simp [p83, ptrTo, h3, h4]
    · have e1 := wrap_u (2 * a) (by omega) (by omega)
      have e2 := wrap_u (2 * a + 1) (by omega) (by omega)
      simp [p83, ptrTo, h3, h4, e1, e2]
/-- the header of a shape -/
def packW (s p : Int) : Int × Int := if shapeOk s p then (2 * (s + 65536 * p), 0) else (0, 1)
theorem refPack_vc {s p : Int} : VC Try.prog 92 false [shV s p] (.tup [vu (packW s p).1, vi (packW s p).2]) := by
  refine vc_of_wp Try.func92 follows (by kernel_rfl) c92 rfl ?_
  simp [p92]
  refine callW_of refRight5_vc (by simp) ?_
  cases h : shapeOk s p
  · simp [packW, h]
  · obtain ⟨h1, h2, h3, h4⟩ := shapeOk_iff.1 h
    have e1 := wrap_u s (by omega) (by omega)
    have e2 := wrap_u p (by omega) (by omega)
    have e3 := wrap_u (65536 * p) (by omega) (by omega)
    have e4 := wrap_u (s + 65536 * p) (by omega) (by omega)
    have e5 := wrap_u (2 * (s + 65536 * p)) (by omega) (by omega)
    simp [packW, h, e1, e2, e3, e4, e5]
/-- the shape of a header: size, pointers, error -/
def unpk (w : Int) : Int × Int × Int := if w % 2 = 0 ∧ shapeOk (w / 2 % 65536) (w / 131072) = true then (w / 2 % 65536, w / 131072, 0) else (0, 0, 3)
theorem unpk_vc {w : Int} (hw : U64 w) : VC Try.prog 60 false [vu w] (.tup [shV (unpk w).1 (unpk w).2.1, vi (unpk w).2.2]) := by
  refine vc_of_wp Try.func60 follows (by kernel_rfl) c60 rfl ?_
  obtain ⟨h1, h2⟩ := hw
  have s1 : w.fdiv (2 ^ min 1 IntKind.u64.bits) = w / 2 := by
    rw [show (2 : Int) ^ min 1 IntKind.u64.bits = 2 by decide]
    exact Int.fdiv_eq_ediv_of_nonneg _ (by omega)
  have s2 : w.fdiv (2 ^ min 17 IntKind.u64.bits) = w / 131072 := by
    rw [show (2 : Int) ^ min 17 IntKind.u64.bits = 131072 by decide]
    exact Int.fdiv_eq_ediv_of_nonneg _ (by omega)
  have m1 := wrap_u (w / 2) (by omega) (by omega)
  have m2 := wrap_u (w / 131072) (by omega) (by omega)
  have e1 : w.tmod 2 = w % 2 := Int.tmod_eq_emod_of_nonneg h1
  have e2 : (w / 2).tmod 65536 = w / 2 % 65536 := Int.tmod_eq_emod_of_nonneg (by omega)
  have e3 := wrap_i (w / 2 % 65536) (by omega) (by omega)
  have e4 := wrap_i (w / 131072) (by omega) (by omega)
  simp [p60, binV, s1, s2, e1, e2, e3, e4, m1, m2]
  by_cases h3 : w % 2 = 0
  · simp [h3]
    refine callW_of right5_vc (by simp) ?_
    cases h4 : shapeOk (w / 2 % 65536) (w / 131072)
    · simp [unpk, h3, h4]
    · simp [unpk, h3, h4]
  · simp [h3, unpk]
theorem refUnpk_vc {w : Int} (hw : U64 w) : VC Try.prog 66 false [vu w] (.tup [shV (unpk w).1 (unpk w).2.1, vi (unpk w).2.2]) := by
  refine vc_of_wp Try.func66 follows (by kernel_rfl) c66 rfl ?_
  obtain ⟨h1, h2⟩ := hw
  have s1 : w.tdiv 2 = w / 2 := Int.tdiv_eq_ediv_of_nonneg h1
  have s2 : w.tdiv 131072 = w / 131072 := Int.tdiv_eq_ediv_of_nonneg h1
  have e0 := wrap_u (w / 2) (by omega) (by omega)
  have e0' := wrap_u (w / 131072) (by omega) (by omega)
  have e2 : (w / 2).tmod 65536 = w / 2 % 65536 := Int.tmod_eq_emod_of_nonneg (by omega)
  have e2' : (w / 131072).tmod 65536 = w / 131072 % 65536 := Int.tmod_eq_emod_of_nonneg (by omega)
  have e3 := wrap_i (w / 2 % 65536) (by omega) (by omega)
  have e4 := wrap_i (w / 131072 % 65536) (by omega) (by omega)
  simp [p66, s1, s2, e0, e0', e2, e2', e3, e4]
  refine callW_of refPack_vc (by simp) ?_
  unfold packW unpk
  cases h : shapeOk (w / 2 % 65536) (w / 131072 % 65536)
  · have : ¬ (w % 2 = 0 ∧ shapeOk (w / 2 % 65536) (w / 131072) = true) := by
      rintro ⟨h3, h4⟩
      have h5 := shapeOk_iff.1 h4
      have h6 := shapeOk_no.1 h
      omega
    simp [this]
  · have h5 := shapeOk_iff.1 h
    by_cases h3 : 2 * (w / 2 % 65536 + 65536 * (w / 131072 % 65536)) = w
    · have h4 : w % 2 = 0 ∧ shapeOk (w / 2 % 65536) (w / 131072) = true := ⟨by omega, shapeOk_iff.2 (by omega)⟩
      have h6 : w / 131072 % 65536 = w / 131072 := by omega
      rw [h6] at h3
      simp [h3, h4, h6]
    · have h4 : ¬ (w % 2 = 0 ∧ shapeOk (w / 2 % 65536) (w / 131072) = true) := by
        rintro ⟨h6, h7⟩
        have h8 := shapeOk_iff.1 h7
        omega
      simp [h3, h4]
end Vm
