/-
  forward.Forward, walked by hand.
-/
import Derived.Test.YtfplljcicihneaaEh
namespace Vm
open Go Go.Proofs Go.RowKit
set_option maxHeartbeats 4000000
set_option maxRecDepth 100000
set_option linter.unusedSimpArgs false
set_option linter.unusedVariables false
theorem Forward_walk (w : World) (G : Nat → Prop) (hG : ∀ b, G b → b < w.heap.size) (h : Hp) (hh : h.ok) (src : Nat → Value) (hs : ∀ j, j < 5 → Rd w G (.sl ((lsH h j).map vu)) (src j)) (v : Int) (hv : U64 v) :
    Calls Try.prog 20 #[hpA h src, .int .u64 v] w (FwdPost w (fwd h v)) := by
  have HS := Lib.hid hs
  have HH := Lib.hid hh
  clear hs hh
  by_cases hfo : rightL (layH h) = true ∧ ¬ v = 0 ∧ (adr v).2 = 0 ∧ (findL (layH h) (adr v).1).2.2 = 0
  · exact Forward_found w G hG h HH.out src HS.out v hv hfo.1 hfo.2.1 hfo.2.2.1 hfo.2.2.2
  unfold hpA
  go_enter Try.func20, Try.ntmps20
  cases hr : rightL (layH h)
  · go_wp2_with (first
      | (go_at_call 54; refine (Layout_calls (h := h) (x := src) (G := G) (fun c hc => by have := hG c hc; simp; omega) (fun j hj => (HS.out j hj).keep (fun b hb => by have := hG b hb; rw [Below.heap_alloc _ _ _ (by simp; omega), Below.heap_alloc _ _ _ (by omega)]) (fun _ h => h))).mono ?_; rintro e w1 ⟨rfl, hb1⟩; unfold lyA; have z1 := (hb1.block (w.heap.size + 1) (by simp)).trans (zero_new w _); have hs1 := hb1.size; simp at hs1; have HB1 := Lib.hid hb1; clear hb1)
      | (go_at_call 55; refine (rightL_calls HH.out.lay _).mono ?_; rintro e w2 ⟨rfl, hb2⟩; rw [hr]; have z2 := (hb2.block (w.heap.size + 1) (by simp; omega)).trans ((Below.heap_alloc w1 _ (w.heap.size + 1) (by omega)).trans z1); have y2 : ∀ j, w2.cell? ⟨w.heap.size + 1, j, none⟩ = zeroA[j]? := fun j => cell_of_row _ _ _ _ _ _ z2; have f2 : ∀ j, w2.frozen? ⟨w.heap.size + 1, j, none⟩ = false := fun j => frz_of z2; unfold zeroA at y2; have HB2 := Lib.hid hb2; clear hb2))
    have y := put10_cells z2 (.int .u64 0) (.int .i64 0) (.int .i64 0) (.bool false) (.int .i64 0) (.slice none 0 0) (.slice none 0 0) (.slice none 0 0) (.slice none 0 0) (.slice none 0 0)
    refine bodyPost_ret (v := .tuple #[.int .u64 0, .agg zeroA, .int .i64 1]) (by simp [results, Try.results20, go_sem, y, zeroA]) rfl ⟨fun _ => .slice none 0 0, ?_, put10_below ?_ (by omega) _ _ _ _ _ _ _ _ _ _, ?_⟩
    · simp [fwd, hr, hpA, Hp.zero, zeroA]
    · exact ((((((Below.refl _ _).alloc (Nat.le_refl _) _).alloc (by simp) _).trans (HB1.out.mono (by simp; omega))).alloc (by omega) _).trans (HB2.out.mono (by simp; omega)))
    · have : (fwd h v).2.1 = Hp.zero := by simp [fwd, hr]
      rw [this]
      exact zero_rd _ _
  · by_cases h0 : v = 0
    · subst h0
      go_wp2_with (first
        | (go_at_call 54; refine (Layout_calls (h := h) (x := src) (G := G) (fun c hc => by have := hG c hc; simp; omega) (fun j hj => (HS.out j hj).keep (fun b hb => by have := hG b hb; rw [Below.heap_alloc _ _ _ (by simp; omega), Below.heap_alloc _ _ _ (by omega)]) (fun _ h => h))).mono ?_; rintro e w1 ⟨rfl, hb1⟩; unfold lyA; have z1 := (hb1.block (w.heap.size + 1) (by simp)).trans (zero_new w _); have p1 := (hb1.block w.heap.size (by simp; omega)).trans ((Below.heap_alloc (w.alloc (.cells #[Value.int IntKind.u64 h.base, Value.int IntKind.i64 h.cap, Value.int IntKind.i64 h.to, Value.bool h.cycle, Value.int IntKind.i64 h.scan, src 0, src 1, src 2, src 3, src 4] 31)) _ w.heap.size (by simp)).trans (heap_alloc_new w _)); have hs1 := hb1.size; simp at hs1; have HB1 := Lib.hid hb1; clear hb1)
        | (go_at_call 55; refine (rightL_calls HH.out.lay _).mono ?_; rintro e w2 ⟨rfl, hb2⟩; rw [hr]; have z2 := (hb2.block (w.heap.size + 1) (by simp; omega)).trans ((Below.heap_alloc w1 _ (w.heap.size + 1) (by omega)).trans z1); have p2 := (hb2.block w.heap.size (by simp; omega)).trans ((Below.heap_alloc w1 _ w.heap.size (by omega)).trans p1); have x2 : ∀ j, w2.cell? ⟨w.heap.size, j, none⟩ = (#[Value.int IntKind.u64 h.base, Value.int IntKind.i64 h.cap, Value.int IntKind.i64 h.to, Value.bool h.cycle, Value.int IntKind.i64 h.scan, src 0, src 1, src 2, src 3, src 4] : Array Value)[j]? := fun j => cell_of_row _ _ _ _ _ _ p2; have hb02 : Below w.heap.size w w2 := ((((((Below.refl _ _).alloc (Nat.le_refl _) _).alloc (by simp) _).trans (HB1.out.mono (by simp; omega))).alloc (by omega) _).trans (hb2.mono (by simp; omega))); have hs2 := hb2.size; simp at hs2; have HB02 := Lib.hid hb02; clear hb2 hb02)
        | (go_at_call 56; refine (Own_walk _ G (fun b hb => by have := hG b hb; omega) h HH.out src (fun j hj => (HS.out j hj).keep (fun b hb => HB02.out.block b (hG b hb)) (fun _ h => h))).mono ?_; rintro e w3 ⟨x, rfl, hb3, ho3⟩; obtain ⟨a0, q0, e0⟩ := own_form (ho3.own 0 (by omega)); obtain ⟨a1, q1, e1⟩ := own_form (ho3.own 1 (by omega)); obtain ⟨a2, q2, e2⟩ := own_form (ho3.own 2 (by omega)); obtain ⟨a3, q3, e3⟩ := own_form (ho3.own 3 (by omega)); obtain ⟨a4, q4, e4⟩ := own_form (ho3.own 4 (by omega)); unfold hpA; rw [e0, e1, e2, e3, e4]; have z3 := (hb3.block (w.heap.size + 1) (by omega)).trans z2; have y3 : ∀ j, w3.cell? ⟨w.heap.size + 1, j, none⟩ = zeroA[j]? := fun j => cell_of_row _ _ _ _ _ _ z3; have f3 : ∀ j, w3.frozen? ⟨w.heap.size + 1, j, none⟩ = false := fun j => frz_of z3; unfold zeroA at y3; have HB3 := Lib.hid hb3; have HO3 := Lib.hid ho3; clear hb3 ho3))
      have y := put10_cells z3 (.int .u64 h.base) (.int .i64 h.cap) (.int .i64 h.to) (.bool h.cycle) (.int .i64 h.scan) (.slice a0 (lsH h 0).length q0) (.slice a1 (lsH h 1).length q1) (.slice a2 (lsH h 2).length q2) (.slice a3 (lsH h 3).length q3) (.slice a4 (lsH h 4).length q4)
      have hf : fwd h 0 = (0, h, 0) := by simp [fwd, hr]
      refine bodyPost_ret (v := .tuple #[.int .u64 0, hpA h x, .int .i64 0]) (by unfold hpA; rw [e0, e1, e2, e3, e4]; simp [results, Try.results20, go_sem, y]) rfl ⟨x, ?_, put10_below (HB02.out.trans (HB3.out.mono (by omega))) (by omega) _ _ _ _ _ _ _ _ _ _, ?_⟩
      · rw [hf]
      · rw [hf]
        intro j hj
        have ho := HO3.out.own j hj
        refine own_rd (B := w2.heap.size) (owns_block ho fun c hc => put10_other (by have := (ho.lt c hc).1; omega) _ _ _ _ _ _ _ _ _ _) (fun c h1 h2 => ⟨by omega, h2⟩)
    · have hv0 : ¬ (v = 0) := h0
      by_cases h1 : (adr v).2 = 0
      · by_cases h2 : (findL (layH h) (adr v).1).2.2 = 0
        · exact (hfo ⟨hr, hv0, h1, h2⟩).elim
        · go_wp2_with (first
          | (go_at_call 54; refine (Layout_calls (h := h) (x := src) (G := G) (fun c hc => by have := hG c hc; simp; omega) (fun j hj => (HS.out j hj).keep (fun b hb => by have := hG b hb; rw [Below.heap_alloc _ _ _ (by simp; omega), Below.heap_alloc _ _ _ (by omega)]) (fun _ h => h))).mono ?_; rintro e w1 ⟨rfl, hb1⟩; unfold lyA; have z1 := (hb1.block (w.heap.size + 1) (by simp)).trans (zero_new w _); have p1 := (hb1.block w.heap.size (by simp; omega)).trans ((Below.heap_alloc (w.alloc (.cells #[Value.int IntKind.u64 h.base, Value.int IntKind.i64 h.cap, Value.int IntKind.i64 h.to, Value.bool h.cycle, Value.int IntKind.i64 h.scan, src 0, src 1, src 2, src 3, src 4] 31)) _ w.heap.size (by simp)).trans (heap_alloc_new w _)); have hs1 := hb1.size; simp at hs1; have HB1 := Lib.hid hb1; clear hb1)
          | (go_at_call 55; refine (rightL_calls HH.out.lay _).mono ?_; rintro e w2 ⟨rfl, hb2⟩; rw [hr]; have z2 := (hb2.block (w.heap.size + 1) (by simp; omega)).trans ((Below.heap_alloc w1 _ (w.heap.size + 1) (by omega)).trans z1); have p2 := (hb2.block w.heap.size (by simp; omega)).trans ((Below.heap_alloc w1 _ w.heap.size (by omega)).trans p1); have x2 : ∀ j, w2.cell? ⟨w.heap.size, j, none⟩ = (#[Value.int IntKind.u64 h.base, Value.int IntKind.i64 h.cap, Value.int IntKind.i64 h.to, Value.bool h.cycle, Value.int IntKind.i64 h.scan, src 0, src 1, src 2, src 3, src 4] : Array Value)[j]? := fun j => cell_of_row _ _ _ _ _ _ p2; have hb02 : Below w.heap.size w w2 := ((((((Below.refl _ _).alloc (Nat.le_refl _) _).alloc (by simp) _).trans (HB1.out.mono (by simp; omega))).alloc (by omega) _).trans (hb2.mono (by simp; omega))); have hs2 := hb2.size; simp at hs2; have m2 := (hb2.block w1.heap.size (by simp)).trans (heap_alloc_new w1 _); have HB02 := Lib.hid hb02; clear hb2 hb02)
          | (go_at_call 57; refine (adr_calls hv _).mono ?_; rintro e w3 ⟨rfl, hb3⟩; have z3 := (hb3.block (w.heap.size + 1) (by omega)).trans z2; have y3 : ∀ j, w3.cell? ⟨w.heap.size + 1, j, none⟩ = zeroA[j]? := fun j => cell_of_row _ _ _ _ _ _ z3; have f3 : ∀ j, w3.frozen? ⟨w.heap.size + 1, j, none⟩ = false := fun j => frz_of z3; unfold zeroA at y3; have m3 := (hb3.block w1.heap.size (by omega)).trans m2; have l3 : ∀ j, w3.cell? ⟨w1.heap.size, j, none⟩ = (#[Value.int IntKind.u64 (layH h).base, Value.int IntKind.i64 (layH h).cap, Value.int IntKind.i64 (layH h).to, Value.int IntKind.i64 (layH h).low, Value.int IntKind.i64 (layH h).high, Value.int IntKind.i64 (layH h).old, Value.int IntKind.i64 (layH h).far] : Array Value)[j]? := fun j => cell_of_row _ _ _ _ _ _ m3; have hs3 := hb3.size; have HB3 := Lib.hid hb3; clear hb3)
          | (go_at_call 58; refine (findL_calls HH.out.lay (adr_u hv) _).mono ?_; rintro e w4 ⟨rfl, hb4⟩; have hs4 := hb4.size; have z4 : ∀ o, (w4.alloc o).heap[w.heap.size + 1]? = some (.cells zeroA 31 (0, 0)) := fun o => (Below.heap_alloc w4 o (w.heap.size + 1) (by omega)).trans ((hb4.block (w.heap.size + 1) (by omega)).trans z3); have y4 : ∀ o j, (w4.alloc o).cell? ⟨w.heap.size + 1, j, none⟩ = zeroA[j]? := fun o j => cell_of_row _ _ _ _ _ _ (z4 o); have f4 : ∀ o j, (w4.alloc o).frozen? ⟨w.heap.size + 1, j, none⟩ = false := fun o j => frz_of (z4 o); unfold zeroA at y4; have HB4 := Lib.hid hb4; clear hb4))
          have y := put10_cells (z4 (.cells #[.int .i64 (findL (layH h) (adr v).1).1, .int .i64 (findL (layH h) (adr v).1).2.1] 65)) (.int .u64 0) (.int .i64 0) (.int .i64 0) (.bool false) (.int .i64 0) (.slice none 0 0) (.slice none 0 0) (.slice none 0 0) (.slice none 0 0) (.slice none 0 0)
          have hf : fwd h v = (0, Hp.zero, 6) := by simp [fwd, hr, h0, h1, h2]
          refine bodyPost_ret (v := .tuple #[.int .u64 0, .agg zeroA, .int .i64 6]) (by simp [results, Try.results20, go_sem, y, zeroA]) rfl ⟨fun _ => .slice none 0 0, ?_, put10_below (((HB02.out.trans (HB3.out.mono (by omega))).trans (HB4.out.mono (by omega))).alloc (by omega) _) (by omega) _ _ _ _ _ _ _ _ _ _, ?_⟩
          · rw [hf]; simp [hpA, Hp.zero, zeroA]
          · rw [hf]
            exact zero_rd _ _
      · go_wp2_with (first
        | (go_at_call 54; refine (Layout_calls (h := h) (x := src) (G := G) (fun c hc => by have := hG c hc; simp; omega) (fun j hj => (HS.out j hj).keep (fun b hb => by have := hG b hb; rw [Below.heap_alloc _ _ _ (by simp; omega), Below.heap_alloc _ _ _ (by omega)]) (fun _ h => h))).mono ?_; rintro e w1 ⟨rfl, hb1⟩; unfold lyA; have z1 := (hb1.block (w.heap.size + 1) (by simp)).trans (zero_new w _); have p1 := (hb1.block w.heap.size (by simp; omega)).trans ((Below.heap_alloc (w.alloc (.cells #[Value.int IntKind.u64 h.base, Value.int IntKind.i64 h.cap, Value.int IntKind.i64 h.to, Value.bool h.cycle, Value.int IntKind.i64 h.scan, src 0, src 1, src 2, src 3, src 4] 31)) _ w.heap.size (by simp)).trans (heap_alloc_new w _)); have hs1 := hb1.size; simp at hs1; have HB1 := Lib.hid hb1; clear hb1)
        | (go_at_call 55; refine (rightL_calls HH.out.lay _).mono ?_; rintro e w2 ⟨rfl, hb2⟩; rw [hr]; have z2 := (hb2.block (w.heap.size + 1) (by simp; omega)).trans ((Below.heap_alloc w1 _ (w.heap.size + 1) (by omega)).trans z1); have p2 := (hb2.block w.heap.size (by simp; omega)).trans ((Below.heap_alloc w1 _ w.heap.size (by omega)).trans p1); have x2 : ∀ j, w2.cell? ⟨w.heap.size, j, none⟩ = (#[Value.int IntKind.u64 h.base, Value.int IntKind.i64 h.cap, Value.int IntKind.i64 h.to, Value.bool h.cycle, Value.int IntKind.i64 h.scan, src 0, src 1, src 2, src 3, src 4] : Array Value)[j]? := fun j => cell_of_row _ _ _ _ _ _ p2; have hb02 : Below w.heap.size w w2 := ((((((Below.refl _ _).alloc (Nat.le_refl _) _).alloc (by simp) _).trans (HB1.out.mono (by simp; omega))).alloc (by omega) _).trans (hb2.mono (by simp; omega))); have hs2 := hb2.size; simp at hs2; have HB02 := Lib.hid hb02; clear hb2 hb02)
          | (go_at_call 57; refine (adr_calls hv _).mono ?_; rintro e w3 ⟨rfl, hb3⟩; have z3 := (hb3.block (w.heap.size + 1) (by omega)).trans z2; have y3 : ∀ j, w3.cell? ⟨w.heap.size + 1, j, none⟩ = zeroA[j]? := fun j => cell_of_row _ _ _ _ _ _ z3; have f3 : ∀ j, w3.frozen? ⟨w.heap.size + 1, j, none⟩ = false := fun j => frz_of z3; unfold zeroA at y3; have HB3 := Lib.hid hb3; clear hb3))
        have y := put10_cells z3 (.int .u64 0) (.int .i64 0) (.int .i64 0) (.bool false) (.int .i64 0) (.slice none 0 0) (.slice none 0 0) (.slice none 0 0) (.slice none 0 0) (.slice none 0 0)
        have hf : fwd h v = (0, Hp.zero, 3) := by simp [fwd, hr, h0, h1]
        refine bodyPost_ret (v := .tuple #[.int .u64 0, .agg zeroA, .int .i64 3]) (by simp [results, Try.results20, go_sem, y, zeroA]) rfl ⟨fun _ => .slice none 0 0, ?_, put10_below (HB02.out.trans (HB3.out.mono (by omega))) (by omega) _ _ _ _ _ _ _ _ _ _, ?_⟩
        · rw [hf]; simp [hpA, Hp.zero, zeroA]
        · rw [hf]
          exact zero_rd _ _
end Vm
