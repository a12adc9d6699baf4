/-
  The contract of forward.Forward on plain values.
-/
import Derived.Test.YtfplljcicihneaaEi
namespace Vm
open Go Go.Proofs Go.RowKit
set_option maxHeartbeats 1000000
set_option maxRecDepth 100000
set_option linter.unusedSimpArgs false
set_option linter.unusedVariables false
theorem rd_int_inv {w : World} {G : Nat → Prop} {k : IntKind} {n : Int} {v : Value} (r : Rd w G (.int k n) v) : v = .int k n := by cases r; rfl
theorem rd_bool_inv {w : World} {G : Nat → Prop} {b : Bool} {v : Value} (r : Rd w G (.bool b) v) : v = .bool b := by cases r; rfl
/-- how a heap that is handed in lies in memory -/
theorem hp_src {w : World} {G : Nat → Prop} {h : Hp} {v : Value} (r : Rd w G (hpV h) v) : ∃ src, v = hpA h src ∧ ∀ j, j < 5 → Rd w G (.sl ((lsH h j).map vu)) (src j) := by
  cases r with
  | agg _ vs hl _ hr =>
    refine ⟨fun j => vs.getD (5 + j) undef, ?_, ?_⟩
    · have e0 := rd_int_inv (hr 0 _ rfl)
      have e1 := rd_int_inv (hr 1 _ rfl)
      have e2 := rd_int_inv (hr 2 _ rfl)
      have e3 := rd_bool_inv (hr 3 _ rfl)
      have e4 := rd_int_inv (hr 4 _ rfl)
      have hl' : vs.size = 10 := hl
      unfold hpA
      rw [← e0, ← e1, ← e2, ← e3, ← e4]
      congr 1
      apply Array.ext
      · simp [hl']
      · intro i h1 h2
        have hi : i < 10 := by omega
        match i, hi with
        | 0, _ | 1, _ | 2, _ | 3, _ | 4, _ | 5, _ | 6, _ | 7, _ | 8, _ | 9, _ => simp [Array.getD, hl']
    · intro j hj
      match j, hj with
      | 0, _ => exact hr 5 _ rfl
      | 1, _ => exact hr 6 _ rfl
      | 2, _ => exact hr 7 _ rfl
      | 3, _ => exact hr 8 _ rfl
      | 4, _ => exact hr 9 _ rfl
theorem hp_rd {w : World} {G : Nat → Prop} {h : Hp} {x : Nat → Value} (hr : ∀ j, j < 5 → Rd w G (.sl ((lsH h j).map vu)) (x j)) : Rd w G (hpV h) (hpA h x) := by
  refine .agg _ _ rfl (by simp [V.one]) ?_
  intro i y hy
  match i, hy with
  | 0, hy => cases hy; exact .int _ _
  | 1, hy => cases hy; exact .int _ _
  | 2, hy => cases hy; exact .int _ _
  | 3, hy => cases hy; exact .bool _
  | 4, hy => cases hy; exact .int _ _
  | 5, hy => cases hy; exact hr 0 (by omega)
  | 6, hy => cases hy; exact hr 1 (by omega)
  | 7, hy => cases hy; exact hr 2 (by omega)
  | 8, hy => cases hy; exact hr 3 (by omega)
  | 9, hy => cases hy; exact hr 4 (by omega)
theorem fwdOk : FwdOk := by
  intro h v hh hv
  refine ⟨by kernel_rfl, fun w G vs hG hsz hvs => ?_⟩
  have r0 := hvs 0 _ rfl
  have r1 := hvs 1 _ rfl
  obtain ⟨⟨l⟩⟩ := vs
  · simp at hsz
  rename_i v0 l
  cases l with
  | nil => simp at hsz
  | cons v1 l =>
    cases l with
    | cons _ _ => simp at hsz
    | nil =>
      simp at r0 r1
      obtain ⟨src, rfl, hs⟩ := hp_src r0
      have := rd_int_inv r1
      subst this
      refine (Forward_walk w G hG h hh src hs v hv).mono ?_
      rintro e w' ⟨x, rfl, hb, hr⟩
      refine ⟨_, rfl, hb, ?_⟩
      refine .tup _ _ rfl ?_
      intro i y hy
      match i, hy with
      | 0, hy => cases hy; exact .int _ _
      | 1, hy => cases hy; exact hp_rd fun j hj => (hr j hj).mono fun b hb => .inr hb
      | 2, hy => cases hy; exact .int _ _
end Vm
