/-
  Lists and nodes that are the same: slices.Equal, slices.EqualFunc, the references' own.
-/
import Derived.Test.YtbmgnmjghhakhaaWb
namespace Vm
open Go Go.Proofs
set_option maxRecDepth 100000
set_option linter.unusedSimpArgs false
set_option linter.unusedVariables false

theorem take_succ_eq {α : Type} {a b : List α} {i : Nat} (h : a.take i = b.take i) (hx : a[i]? = b[i]?) : a.take (i + 1) = b.take (i + 1) := by
  rw [List.take_add_one, List.take_add_one, h, hx]
theorem ne_at {α : Type} {a b : List α} {i : Nat} (h : a[i]? ≠ b[i]?) : a ≠ b := fun e => h (by rw [e])

theorem equalI_vc {a b : List Int} (ha : a.length ≤ 100000) : VC Try.prog 47 false [.sl (a.map vi), .sl (b.map vi)] (.bool (decide (a = b))) := by
  refine vc_of_wp Try.func47 follows (by kernel_rfl) c47 rfl ?_
  by_cases hl : a.length = b.length
  · simp [p47, hl]
    refine wpS_loop (fun t => ∃ i : Nat, i ≤ b.length ∧ a.take i = b.take i ∧ t = [.v (.sl (a.map vi)), .v (.sl (b.map vi)), .v (.bool false), .v (.bool false), .v (vi i), .v (vi b.length)]) (fun t => match get t 4 with | .v (.int _ n) => b.length - n.toNat | _ => 0) ?_ ?_
    · exact ⟨0, by simp, by simp, by simp⟩
    · rintro t ⟨i, hi, heq, rfl⟩
      by_cases h : i < b.length
      · have h' : i < a.length := by omega
        by_cases hx : a[i] = b[i]
        · simp [h, h', hx]
          simp (disch := omega) only [wrap_i]
          exact ⟨⟨i + 1, by omega, take_succ_eq heq (by simp [h, h', hx]), by simp⟩, by omega⟩
        · simp [h, h', hx]
          exact ne_at (i := i) (by simp [h, h', hx])
      · have : i = b.length := by omega
        subst this
        rw [List.take_length, List.take_of_length_le (by omega)] at heq
        simp [heq]
  · simp [p47, show ¬ ((a.length : Int) = (b.length : Int)) by omega]
    intro e; subst e; exact hl rfl
theorem equalU_vc {a b : List Int} (ha : a.length ≤ 100000) : VC Try.prog 50 false [.sl (a.map vu), .sl (b.map vu)] (.bool (decide (a = b))) := by
  refine vc_of_wp Try.func50 follows (by kernel_rfl) c50 rfl ?_
  by_cases hl : a.length = b.length
  · simp [p50, hl]
    refine wpS_loop (fun t => ∃ i : Nat, i ≤ b.length ∧ a.take i = b.take i ∧ t = [.v (.sl (a.map vu)), .v (.sl (b.map vu)), .v (.bool false), .v (.bool false), .v (vi i), .v (vi b.length)]) (fun t => match get t 4 with | .v (.int _ n) => b.length - n.toNat | _ => 0) ?_ ?_
    · exact ⟨0, by simp, by simp, by simp⟩
    · rintro t ⟨i, hi, heq, rfl⟩
      by_cases h : i < b.length
      · have h' : i < a.length := by omega
        by_cases hx : a[i] = b[i]
        · simp [h, h', hx]
          simp (disch := omega) only [wrap_i]
          exact ⟨⟨i + 1, by omega, take_succ_eq heq (by simp [h, h', hx]), by simp⟩, by omega⟩
        · simp [h, h', hx]
          exact ne_at (i := i) (by simp [h, h', hx])
      · have : i = b.length := by omega
        subst this
        rw [List.take_length, List.take_of_length_le (by omega)] at heq
        simp [heq]
  · simp [p50, show ¬ ((a.length : Int) = (b.length : Int)) by omega]
    intro e; subst e; exact hl rfl
theorem ints_vc {a b : List Int} (ha : a.length ≤ 100000) : VC Try.prog 22 false [.sl (a.map vi), .sl (b.map vi)] (.bool (decide (a = b))) := by
  refine vc_of_wp Try.func22 follows (by kernel_rfl) c22 rfl ?_
  by_cases hl : a.length = b.length
  · simp [p22, hl]
    refine wpS_loop (fun t => ∃ i : Nat, i ≤ b.length ∧ a.take i = b.take i ∧ t = [.v (.sl (a.map vi)), .v (.sl (b.map vi)), .v (.bool false), .v (.bool false), .v (vi i)]) (fun t => match get t 4 with | .v (.int _ n) => b.length - n.toNat | _ => 0) ?_ ?_
    · exact ⟨0, by simp, by simp, by simp⟩
    · rintro t ⟨i, hi, heq, rfl⟩
      by_cases h : i < b.length
      · have h' : i < a.length := by omega
        by_cases hx : a[i] = b[i]
        · simp [h, h', hx]
          simp (disch := omega) only [wrap_i]
          exact ⟨⟨i + 1, by omega, take_succ_eq heq (by simp [h, h', hx]), by simp⟩, by omega⟩
        · simp [h, h', hx]
          exact ne_at (i := i) (by simp [h, h', hx])
      · have : i = b.length := by omega
        subst this
        rw [List.take_length, List.take_of_length_le (by omega)] at heq
        simp [heq]
  · simp [p22, show ¬ ((a.length : Int) = (b.length : Int)) by omega]
    intro e; subst e; exact hl rfl
theorem nums_vc {a b : List Int} (ha : a.length ≤ 100000) : VC Try.prog 46 false [.sl (a.map vu), .sl (b.map vu)] (.bool (decide (a = b))) := by
  refine vc_of_wp Try.func46 follows (by kernel_rfl) c46 rfl ?_
  by_cases hl : a.length = b.length
  · simp [p46, hl]
    refine wpS_loop (fun t => ∃ i : Nat, i ≤ b.length ∧ a.take i = b.take i ∧ t = [.v (.sl (a.map vu)), .v (.sl (b.map vu)), .v (.bool false), .v (.bool false), .v (vi i)]) (fun t => match get t 4 with | .v (.int _ n) => b.length - n.toNat | _ => 0) ?_ ?_
    · exact ⟨0, by simp, by simp, by simp⟩
    · rintro t ⟨i, hi, heq, rfl⟩
      by_cases h : i < b.length
      · have h' : i < a.length := by omega
        by_cases hx : a[i] = b[i]
        · simp [h, h', hx]
          simp (disch := omega) only [wrap_i]
          exact ⟨⟨i + 1, by omega, take_succ_eq heq (by simp [h, h', hx]), by simp⟩, by omega⟩
        · simp [h, h', hx]
          exact ne_at (i := i) (by simp [h, h', hx])
      · have : i = b.length := by omega
        subst this
        rw [List.take_length, List.take_of_length_le (by omega)] at heq
        simp [heq]
  · simp [p46, show ¬ ((a.length : Int) = (b.length : Int)) by omega]
    intro e; subst e; exact hl rfl
/-- nodes are the same: the function that Alike hands on -/
theorem sameNd_vc {m n : Nd} (h1 : m.ptrs.length ≤ 100000) (h2 : m.data.length ≤ 100000) : VC Try.prog 49 false [ndV m, ndV n] (.bool (decide (m = n))) := by
  refine vc_of_wp Try.func49 follows (by kernel_rfl) c49 rfl ?_
  simp [p49]
  refine callW_of (equalI_vc h1) (by simp) ?_
  by_cases hp : m.ptrs = n.ptrs
  · simp [hp]
    refine callW_of (equalU_vc h2) (by simp) ?_
    simp
    cases m; cases n
    simp at hp
    simp [hp]
  · simp [hp]
    intro e
    exact hp (by rw [e])
theorem equalFunc_vc {a b : List Nd} (ha : a.length ≤ 100000) (hs : ∀ n ∈ a, n.ptrs.length ≤ 100000 ∧ n.data.length ≤ 100000) : VC Try.prog 48 false [.sl (a.map ndV), .sl (b.map ndV), .fn 49] (.bool (decide (a = b))) := by
  refine vc_of_wp Try.func48 follows (by kernel_rfl) c48 rfl ?_
  by_cases hl : a.length = b.length
  · simp [p48, hl]
    refine wpS_loop (fun t => ∃ i : Nat, i ≤ b.length ∧ a.take i = b.take i ∧ t = [.v (.sl (a.map ndV)), .v (.sl (b.map ndV)), .v (.fn 49), .v (.bool false), .v (.bool false), .v (vi i), .v (vi b.length), .no, .no, .no, .v (.sl (a.map ndV))]) (fun t => match get t 5 with | .v (.int _ n) => b.length - n.toNat | _ => 0) ?_ ?_
    · exact ⟨0, by simp, by simp, by simp⟩
    · rintro t ⟨i, hi, heq, rfl⟩
      by_cases h : i < b.length
      · have h' : i < a.length := by omega
        obtain ⟨s1, s2⟩ := hs _ (List.getElem_mem h')
        simp [h, h']
        refine callWM_of (vcm_of_vc (sameNd_vc (m := a[i]) (n := b[i]) s1 s2)) ?_
        by_cases hx : a[i] = b[i]
        · simp [hx]
          simp (disch := omega) only [wrap_i]
          exact ⟨⟨i + 1, by omega, take_succ_eq heq (by simp [h, h', hx]), by simp⟩, by omega⟩
        · simp [hx]
          exact ne_at (i := i) (by simp [h, h', hx])
      · have : i = b.length := by omega
        subst this
        rw [List.take_length, List.take_of_length_le (by omega)] at heq
        simp [heq]
  · simp [p48, show ¬ ((a.length : Int) = (b.length : Int)) by omega]
    intro e; subst e; exact hl rfl
end Vm
