/-
  forward.Forward, walked by hand.
-/
import Derived.Test.YtfplljcicihneaaEf
namespace Vm
open Go Go.Proofs Go.RowKit
set_option maxHeartbeats 4000000
set_option maxRecDepth 100000
set_option linter.unusedSimpArgs false
set_option linter.unusedVariables false
def FwdPost (w : World) (r : Int × Hp × Int) (e : Ending) (w' : World) : Prop :=
  ∃ x, e = .returned (.tuple #[.int .u64 r.1, hpA r.2.1 x, .int .i64 r.2.2]) ∧ Below w.heap.size w w' ∧ ∀ j, j < 5 → Rd w' (fun c => w.heap.size ≤ c ∧ c < w'.heap.size) (.sl ((lsH r.2.1 j).map vu)) (x j)
theorem zero_rd (w' : World) (G : Nat → Prop) : ∀ j, j < 5 → Rd w' G (.sl ((lsH Hp.zero j).map vu)) (.slice none 0 0) := fun j hj => by
  have : lsH Hp.zero j = [] := by
    unfold lsH Hp.zero
    split
    · rfl
    split
    · rfl
    split
    · rfl
    split <;> rfl
  rw [this]
  exact .nil _ _ (by unfold maxLen; omega)
def zeroA : Array Value := #[Value.int IntKind.u64 0, Value.int IntKind.i64 0, Value.int IntKind.i64 0, Value.bool false, Value.int IntKind.i64 0, Value.slice none 0 0, Value.slice none 0 0, Value.slice none 0 0, Value.slice none 0 0, Value.slice none 0 0]
theorem zero_new (w : World) (o : Obj) : ((w.alloc o).alloc (.cells #[Value.int IntKind.u64 0, Value.int IntKind.i64 0, Value.int IntKind.i64 0, Value.bool false, Value.int IntKind.i64 0, Value.slice none 0 0, Value.slice none 0 0, Value.slice none 0 0, Value.slice none 0 0, Value.slice none 0 0] 31)).heap[w.heap.size + 1]? = some (.cells zeroA 31 (0, 0)) := by
  have e : (w.alloc o).heap.size = w.heap.size + 1 := by simp
  have := heap_alloc_new (w.alloc o) (.cells zeroA 31)
  rw [e] at this
  exact this
theorem put10_blk {w2 : World} {b : Nat} {T : TypeId} (hb : w2.heap[b]? = some (.cells zeroA T (0, 0))) (v0 v1 v2 v3 v4 v5 v6 v7 v8 v9 : Value) : ((((((((((w2.setCell ⟨b, 0, none⟩ v0).setCell ⟨b, 1, none⟩ v1).setCell ⟨b, 2, none⟩ v2).setCell ⟨b, 3, none⟩ v3).setCell ⟨b, 4, none⟩ v4).setCell ⟨b, 5, none⟩ v5).setCell ⟨b, 6, none⟩ v6).setCell ⟨b, 7, none⟩ v7).setCell ⟨b, 8, none⟩ v8).setCell ⟨b, 9, none⟩ v9).heap[b]? = some (.cells #[v0, v1, v2, v3, v4, v5, v6, v7, v8, v9] T (0, 0)) := by
  unfold zeroA at hb
  simp [World.setCell, Array.getElem?_modify, hb]
theorem put10_cells {w2 : World} {b : Nat} {T : TypeId} (hb : w2.heap[b]? = some (.cells zeroA T (0, 0))) (v0 v1 v2 v3 v4 v5 v6 v7 v8 v9 : Value) (j : Nat) : ((((((((((w2.setCell ⟨b, 0, none⟩ v0).setCell ⟨b, 1, none⟩ v1).setCell ⟨b, 2, none⟩ v2).setCell ⟨b, 3, none⟩ v3).setCell ⟨b, 4, none⟩ v4).setCell ⟨b, 5, none⟩ v5).setCell ⟨b, 6, none⟩ v6).setCell ⟨b, 7, none⟩ v7).setCell ⟨b, 8, none⟩ v8).setCell ⟨b, 9, none⟩ v9).cell? ⟨b, j, none⟩ = (#[v0, v1, v2, v3, v4, v5, v6, v7, v8, v9] : Array Value)[j]? :=
  cell_of_row _ _ _ _ _ _ (put10_blk hb v0 v1 v2 v3 v4 v5 v6 v7 v8 v9)
theorem put10_below {B : Nat} {w0 w2 : World} {b : Nat} (h : Below B w0 w2) (hb : B ≤ b) (v0 v1 v2 v3 v4 v5 v6 v7 v8 v9 : Value) : Below B w0 ((((((((((w2.setCell ⟨b, 0, none⟩ v0).setCell ⟨b, 1, none⟩ v1).setCell ⟨b, 2, none⟩ v2).setCell ⟨b, 3, none⟩ v3).setCell ⟨b, 4, none⟩ v4).setCell ⟨b, 5, none⟩ v5).setCell ⟨b, 6, none⟩ v6).setCell ⟨b, 7, none⟩ v7).setCell ⟨b, 8, none⟩ v8).setCell ⟨b, 9, none⟩ v9) :=
  (((((((((h.setCell hb _).setCell hb _).setCell hb _).setCell hb _).setCell hb _).setCell hb _).setCell hb _).setCell hb _).setCell hb _).setCell hb _
theorem put10_other {w2 : World} {b c : Nat} (hc : c ≠ b) (v0 v1 v2 v3 v4 v5 v6 v7 v8 v9 : Value) : ((((((((((w2.setCell ⟨b, 0, none⟩ v0).setCell ⟨b, 1, none⟩ v1).setCell ⟨b, 2, none⟩ v2).setCell ⟨b, 3, none⟩ v3).setCell ⟨b, 4, none⟩ v4).setCell ⟨b, 5, none⟩ v5).setCell ⟨b, 6, none⟩ v6).setCell ⟨b, 7, none⟩ v7).setCell ⟨b, 8, none⟩ v8).setCell ⟨b, 9, none⟩ v9).heap[c]? = w2.heap[c]? := by
  have : ¬ b = c := fun e => hc e.symm
  simp [World.setCell, Array.getElem?_modify, this]
end Vm
