/-
  (*forward.work).from and forward.Forward, walked by hand.
-/
import Derived.Test.YtfplljcicihneaaEe
namespace Vm
open Go Go.Proofs Go.RowKit
set_option maxHeartbeats 4000000
set_option maxRecDepth 100000
set_option linter.unusedSimpArgs false
set_option linter.unusedVariables false
theorem from_walk (w : World) (B b : Nat) (h : Hp) (x : Nat → Value) (hN : Now B w b h x) (hh : h.ok) (p a : Nat) (hp : p = 2 ∨ p = 3) (g cap : Nat)
    (hx : x p = .slice (some ⟨g, 0, none⟩) (lsH h p).length cap) (ha : a < (lsH h p).length) :
    Calls Try.prog 59 #[.pointer (some ⟨b, 0, none⟩), .agg #[.int .i64 ((p : Int) + 1), .int .i64 a]] w fun e w' => e = .returned (.slice (some ⟨g, a, none⟩) ((lsH h p).length - a) (cap - a)) ∧ Below w.heap.size w w' := by
  have hbw := heap_lt hN.blk
  have hl := lsH_len hh p
  have hcap : (lsH h p).length ≤ cap := by
    have := (hN.own.own p (by omega)).2
    rw [hx] at this
    rcases this with ⟨hc, _⟩ | ⟨_, _, _, hc, _, _, h1, _⟩
    · cases hc
    · cases hc; exact h1
  rcases hp with rfl | rfl
  · have c7 : (w.alloc (.cells #[.int .i64 3, .int .i64 a] 65)).cell? ⟨b, 7, none⟩ = some (.slice (some ⟨g, 0, none⟩) (lsH h 2).length cap) := by
      rw [World.cell?_alloc_lt _ _ _ hbw, cell_of_row _ _ _ _ _ _ hN.blk, ← hx]; rfl
    have hcap' : ((lsH h 2).length : Int) ≤ 9223372036854775807 := by omega
    go_enter Try.func59, Try.ntmps59
    go_wp2
    go_region
    go_wp2
    go_ret
    exact ⟨rfl, ((Below.refl _ _).alloc (Nat.le_refl _) _).drew⟩
  · have c8 : (w.alloc (.cells #[.int .i64 4, .int .i64 a] 65)).cell? ⟨b, 8, none⟩ = some (.slice (some ⟨g, 0, none⟩) (lsH h 3).length cap) := by
      rw [World.cell?_alloc_lt _ _ _ hbw, cell_of_row _ _ _ _ _ _ hN.blk, ← hx]; rfl
    have hcap' : ((lsH h 3).length : Int) ≤ 9223372036854775807 := by omega
    go_enter Try.func59, Try.ntmps59
    go_wp2
    go_region
    go_wp2
    go_ret
    exact ⟨rfl, ((Below.refl _ _).alloc (Nat.le_refl _) _).drew⟩
end Vm
