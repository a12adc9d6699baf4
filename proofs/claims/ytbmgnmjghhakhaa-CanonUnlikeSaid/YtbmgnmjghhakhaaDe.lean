/-
  graph.work, walked by hand: roots that are named, and the deed of a kind.
-/
import Derived.Test.YtbmgnmjghhakhaaDa
import Derived.Test.YtbmgnmjghhakhaaW3
import Derived.Lib.Hide
namespace Vm
open Go Go.Proofs Go.RowKit
set_option maxHeartbeats 2000000
set_option maxRecDepth 100000
set_option linter.unusedSimpArgs false
set_option linter.unusedVariables false
theorem hdrRight_vc {s p : Int} : VC Try.prog 70 false [.agg [vi s, vi p]] (.bool (shapeOk s p)) := by
  refine vc_of_wp Try.func70 follows (by kernel_rfl) c70 rfl ?_
  by_cases h1 : 0 ≤ s <;> by_cases h2 : s ≤ 255 <;> by_cases h3 : 0 ≤ p <;> by_cases h4 : p ≤ s <;> simp [p70, shapeOk, h1, h2, h3, h4]
def rootOk (n : Nat) (x : Int) : Bool := decide (0 ≤ x) && decide (x < (n : Int))
theorem root_walk (w : World) (b : Nat) (x : Int) (a : Option Addr) (n cap : Nat) (hcap : (n : Int) ≤ 9223372036854775807)
    (h1 : w.cell? ⟨b, 1, none⟩ = some (.slice a n cap)) :
    Calls Try.prog 62 #[.pointer (some ⟨b, 0, none⟩), .int .i64 x] w fun e w' => e = .returned (.bool (rootOk n x)) ∧ w' = w := by
  go_enter Try.func62, Try.ntmps62
  by_cases q1 : 0 ≤ x
  · by_cases q2 : x < (n : Int)
    all_goals
      go_wp2
      go_ret
      exact ⟨by simp [rootOk, q1, q2], rfl⟩
  · go_wp2
    go_ret
    exact ⟨by simp [rootOk]; omega, rfl⟩
def namesN (n : Nat) (k r s : Int) : Bool :=
  if k = 1 ∨ k = 7 then rootOk n r else if k = 3 ∨ k = 5 then rootOk n s else if k = 2 ∨ k = 4 ∨ k = 6 then rootOk n r && rootOk n s else false
theorem named_walk (w : World) (b : Nat) (k r s : Int) (a : Option Addr) (n cap : Nat) (hcap : (n : Int) ≤ 9223372036854775807)
    (h1 : w.cell? ⟨b, 1, none⟩ = some (.slice a n cap)) (h2 : w.cell? ⟨b, 2, none⟩ = some (.int .i64 k))
    (h3 : w.cell? ⟨b, 3, none⟩ = some (.int .i64 r)) (h4 : w.cell? ⟨b, 4, none⟩ = some (.int .i64 s)) :
    Calls Try.prog 55 #[.pointer (some ⟨b, 0, none⟩)] w fun e w' => e = .returned (.bool (namesN n k r s)) ∧ w' = w := by
  have HA := Lib.hid (root_walk w b r a n cap hcap h1)
  have HB := Lib.hid (root_walk w b s a n cap hcap h1)
  go_enter Try.func55, Try.ntmps55
  by_cases k2 : k = 2
  · subst k2
    go_wp2_with fail
    refine HB.out.mono ?_
    rintro e w' ⟨rfl, rfl⟩
    cases hs : rootOk n s
    · go_wp2
      go_ret
      exact ⟨by simp [namesN, hs], rfl⟩
    · go_wp2_with fail
      refine HA.out.mono ?_
      rintro e w' ⟨rfl, rfl⟩
      go_wp2
      go_ret
      exact ⟨by simp [namesN, hs], rfl⟩
  by_cases k4 : k = 4
  · subst k4
    go_wp2_with fail
    refine HB.out.mono ?_
    rintro e w' ⟨rfl, rfl⟩
    cases hs : rootOk n s
    · go_wp2
      go_ret
      exact ⟨by simp [namesN, hs], rfl⟩
    · go_wp2_with fail
      refine HA.out.mono ?_
      rintro e w' ⟨rfl, rfl⟩
      go_wp2
      go_ret
      exact ⟨by simp [namesN, hs], rfl⟩
  by_cases k6 : k = 6
  · subst k6
    go_wp2_with fail
    refine HB.out.mono ?_
    rintro e w' ⟨rfl, rfl⟩
    cases hs : rootOk n s
    · go_wp2
      go_ret
      exact ⟨by simp [namesN, hs], rfl⟩
    · go_wp2_with fail
      refine HA.out.mono ?_
      rintro e w' ⟨rfl, rfl⟩
      go_wp2
      go_ret
      exact ⟨by simp [namesN, hs], rfl⟩
  by_cases k1 : k = 1
  · subst k1
    go_wp2_with fail
    refine HA.out.mono ?_
    rintro e w' ⟨rfl, rfl⟩
    go_wp2
    go_ret
    exact ⟨by simp [namesN], rfl⟩
  by_cases k7 : k = 7
  · subst k7
    go_wp2_with fail
    refine HA.out.mono ?_
    rintro e w' ⟨rfl, rfl⟩
    go_wp2
    go_ret
    exact ⟨by simp [namesN], rfl⟩
  by_cases k3 : k = 3
  · subst k3
    go_wp2_with fail
    refine HB.out.mono ?_
    rintro e w' ⟨rfl, rfl⟩
    go_wp2
    go_ret
    exact ⟨by simp [namesN], rfl⟩
  by_cases k5 : k = 5
  · subst k5
    go_wp2_with fail
    refine HB.out.mono ?_
    rintro e w' ⟨rfl, rfl⟩
    go_wp2
    go_ret
    exact ⟨by simp [namesN], rfl⟩
  go_wp2
  go_ret
  exact ⟨by simp [namesN, k1, k2, k3, k4, k5, k6, k7], rfl⟩
theorem deed_walk (w : World) (b : Nat) (k : Int) (h2 : w.cell? ⟨b, 2, none⟩ = some (.int .i64 k)) :
    Calls Try.prog 56 #[.pointer (some ⟨b, 0, none⟩)] w fun e w' => e = .returned (.func (.func
      (if k = 1 then 63 else if k = 2 then 64 else if k = 3 then 65 else if k = 4 then 66 else if k = 5 then 67 else if k = 6 then 68 else 69))
      #[.pointer (some ⟨b, 0, none⟩)] #[]) ∧ w' = w := by
  go_enter Try.func56, Try.ntmps56
  by_cases k1 : k = 1
  · subst k1
    go_wp2
    go_ret
    exact ⟨by simp, rfl⟩
  by_cases k2 : k = 2
  · subst k2
    go_wp2
    go_ret
    exact ⟨by simp, rfl⟩
  by_cases k3 : k = 3
  · subst k3
    go_wp2
    go_ret
    exact ⟨by simp, rfl⟩
  by_cases k4 : k = 4
  · subst k4
    go_wp2
    go_ret
    exact ⟨by simp, rfl⟩
  by_cases k5 : k = 5
  · subst k5
    go_wp2
    go_ret
    exact ⟨by simp, rfl⟩
  by_cases k6 : k = 6
  · subst k6
    go_wp2
    go_ret
    exact ⟨by simp, rfl⟩
  go_wp2
  go_ret
  exact ⟨by simp [k1, k2, k3, k4, k5, k6], rfl⟩
end Vm
