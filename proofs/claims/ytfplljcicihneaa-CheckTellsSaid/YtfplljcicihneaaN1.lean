/-
  objects.pointer, objects.hold.
-/
import Derived.Test.YtfplljcicihneaaNa
import Derived.Test.YtfplljcicihneaaHk
import Derived.Test.YtfplljcicihneaaEd
import Derived.Recover
import Derived.OwnWalkIn
import Derived.TacticsInMore
import Derived.LoopNIn
import Derived.LoopIn
import Derived.Shelf.RegionOpen
namespace Vm
open Go Go.Proofs Go.RowKit
set_option maxHeartbeats 1000000
set_option maxRecDepth 100000
set_option linter.unusedSimpArgs false
set_option linter.unusedVariables false
theorem pointer_vc {x : Int} (hx : U64 x) : VC Try.prog 132 false [vu x] (.bool (isPtr x)) := by
  refine vc_of_wp Try.func132 follows (by kernel_rfl) c132 rfl ?_
  simp [p132]
  refine callW_of (adr_vc hx) (by simp) ?_
  by_cases h : x = 0 <;> simp [isPtr, h]
theorem pointer_calls {x : Int} (hx : U64 x) (w : World) : Calls Try.prog 132 #[.int .u64 x] w fun e w' => e = .returned (.bool (isPtr x)) ∧ Below w.heap.size w w' :=
  calls_flat (pointer_vc hx) rfl rfl w
/-- the words of a list, at its address -/
structure Words (w : World) (ws : List Int) (g o cap : Nat) : Prop where
  at_ : ∀ (i : Nat) (x : Int), ws[i]? = some x → w.cell? ⟨g, o + i, none⟩ = some (.int .u64 x)
  le : ws.length ≤ cap
  cap : cap ≤ maxLen
  len : ws.length ≤ 1000000
  u64 : ∀ x ∈ ws, U64 x
theorem Words.below {w W : World} {ws : List Int} {g o cap : Nat} (h : Words w ws g o cap) (hs : g < w.heap.size) (hb : Below w.heap.size w W) : Words W ws g o cap :=
  ⟨fun i x hx => by rw [hb.cell (p := ⟨g, o + i, none⟩) hs]; exact h.at_ i x hx, h.le, h.cap, h.len, h.u64⟩
/-- what goes up, if words are no objects -/
def wrongA (e : Int) : List PanicEntry := [{ v := .iface 176 (.agg #[.int .i64 e]), recovered := false }]
def obA (o : Ob) : Value := .agg #[.int .i64 o.at_, .int .i64 o.size, .int .i64 o.ptrs, .bool o.gone, .int .u64 o.target]
/-- how hold ends -/
def holdE (ws : List Int) (o : Ob) : Ending :=
  if (ws.length : Int) < o.at_ + 1 + o.size then .panicked (wrongA 2) else if slotsOk ((ws.drop (o.at_.toNat + 1)).take o.size.toNat) o.gone o.ptrs 0 = false then .panicked (wrongA 3) else .returned (.tuple #[])
theorem hold_walk (w : World) (ws : List Int) (g o cap : Nat) (hw : Words w ws g o cap) (hg : g < w.heap.size) (ob : Ob) (a : Nat) (ha : ob.at_ = a) (hlt : a < ws.length) (hsh : shapeOk ob.size ob.ptrs = true) :
    Calls Try.prog 131 #[.slice (some ⟨g, o, none⟩) ws.length cap, obA ob] w fun e w' => e = holdE ws ob ∧ Below w.heap.size w w' := by
  have hl := hw.len
  have hc := hw.le
  have hm := hw.cap
  obtain ⟨at_, size, ptrs, gone, target⟩ := ob
  simp only at ha hsh
  subst ha
  obtain ⟨s1, s2, s3, s4⟩ := shapeOk_iff.1 hsh
  obtain ⟨m, rfl⟩ := Int.eq_ofNat_of_zero_le s1
  have HW := Lib.hid hw
  have he : holdE ws ⟨a, m, ptrs, gone, target⟩ = if (ws.length : Int) < a + 1 + m then .panicked (wrongA 2) else if slotsOk ((ws.drop (a + 1)).take m) gone ptrs 0 = false then .panicked (wrongA 3) else .returned (.tuple #[]) := rfl
  generalize holdE ws ⟨a, m, ptrs, gone, target⟩ = E at *
  unfold obA
  dsimp only
  by_cases hfit : (ws.length : Int) < a + 1 + m
  · rw [if_pos hfit] at he
    have HE := Lib.hid he
    clear he
    have hlt2 : ((ws.length - (a + 1) : Nat) : Int) < m := by omega
    go_enter Try.func131, Try.ntmps131
    go_wp2
    all_goals exact ⟨rfl, HE.out.symm, (Below.refl _ _).alloc (Nat.le_refl _) _⟩
  · rw [if_neg hfit] at he
    have HE := Lib.hid he
    clear he
    have hge2 : (m : Int) ≤ ((ws.length - (a + 1) : Nat) : Int) := by omega
    have hge3 : m ≤ ws.length - (a + 1) := by omega
    have hnlt : (ws.length - (a + 1) < m) = False := eq_false (by omega)
    have hcm : m ≤ cap - (a + 1) := by omega
    have hm5 : m ≤ 255 := by omega
    clear hw hfit
    by_cases hcap : cap = a + 1
    · have hm0 : m = 0 := by omega
      subst hm0
      subst hcap
      go_enter Try.func131, Try.ntmps131
      go_wp2
      go_loopw [26] (fun i wr => i = .int .i64 0 ∧ Hid (Below w.heap.size w wr)) (fun i _ => 0)
      case atStart => exact ⟨rfl, Lib.hid ((Below.refl _ _).alloc (Nat.le_refl _) _)⟩
      case round =>
        obtain ⟨rfl, HB⟩ := hrel
        go_wp2
        go_end0
        exact ⟨HE.out.symm, HB.out⟩
    · go_enter Try.func131, Try.ntmps131
      go_wp2
      go_loopw [26] (fun i wr => ∃ k : Nat, i = .int .i64 k ∧ k ≤ m ∧ Hid (Below w.heap.size w wr ∧ wr.heap[w.heap.size]? = some (.cells #[.int .i64 a, .int .i64 m, .int .i64 ptrs, .bool gone, .int .u64 target] 57 (0, 0)) ∧
          slotsOk ((ws.drop (a + 1)).take m) gone ptrs 0 = slotsOk (((ws.drop (a + 1)).take m).drop k) gone ptrs k)) (fun i _ => m - (intOf i).toNat)
      case atStart => exact ⟨0, rfl, by omega, Lib.hid ⟨(Below.refl _ _).alloc (Nat.le_refl _) _, heap_alloc_new w _, rfl⟩⟩
      case round =>
        obtain ⟨k, rfl, hk, HI⟩ := hrel
        by_cases hlt : k < m
        · obtain ⟨x, hx⟩ : ∃ x, ws[a + 1 + k]? = some x := ⟨_, List.getElem?_eq_getElem (by omega)⟩
          have hu : U64 x := HW.out.u64 x (List.mem_of_getElem? hx)
          have hT : ((ws.drop (a + 1)).take m)[k]? = some x := by
            rw [List.getElem?_take, if_pos hlt, List.getElem?_drop]; exact hx
          have c0 : wr.cell? ⟨g, o + (a + 1) + k, none⟩ = some (.int .u64 x) := by
            rw [Nat.add_assoc]
            exact (HI.out.1.cell (p := ⟨g, o + (a + 1 + k), none⟩) hg).trans (HW.out.at_ _ _ hx)
          have c1 : wr.cell? ⟨w.heap.size, 1, none⟩ = some (.int .i64 m) := by rw [cell_of_row _ _ _ _ _ _ HI.out.2.1]; rfl
          have c2 : wr.cell? ⟨w.heap.size, 2, none⟩ = some (.int .i64 ptrs) := by rw [cell_of_row _ _ _ _ _ _ HI.out.2.1]; rfl
          have c3 : wr.cell? ⟨w.heap.size, 3, none⟩ = some (.bool gone) := by rw [cell_of_row _ _ _ _ _ _ HI.out.2.1]; rfl
          have hs := slotsOk_drop (gone := gone) (ptrs := ptrs) hT
          have hlt' : (k : Int) < m := by omega
          have hbs := heap_lt HI.out.2.1
          clear hx hT
          have stop : slotsOk (((ws.drop (a + 1)).take m).drop k) gone ptrs k = false → E = .panicked (wrongA 3) := fun h => by
            rw [HE.out, HI.out.2.2, h, if_pos rfl]
          cases gone
          · by_cases hp : (k : Int) < ptrs
            · cases hip : isPtr x
              · have HE2 := Lib.hid (stop (by rw [hs]; simp [hip, hp]))
                clear stop hs
                go_wp2_with (go_at_call 132; refine (pointer_calls hu _).mono ?_; rintro e w1 ⟨rfl, hb1⟩; have HB1 := Lib.hid hb1; clear hb1)
                exact ⟨rfl, HE2.out.symm, HI.out.1.trans (HB1.out.mono HI.out.1.size)⟩
              · have HS := Lib.hid (hs.trans (by simp [hip] : _ = slotsOk (((ws.drop (a + 1)).take m).drop (k + 1)) false ptrs (k + 1)))
                clear stop hs
                go_wp2_with (go_at_call 132; refine (pointer_calls hu _).mono ?_; rintro e w1 ⟨rfl, hb1⟩; have HB1 := Lib.hid hb1; clear hb1)
                go_wp2
                go_roundw
                case rel =>
                  exact ⟨k + 1, by go_num, by omega, Lib.hid ⟨HI.out.1.trans (HB1.out.mono HI.out.1.size), (HB1.out.block _ hbs).trans HI.out.2.1, HI.out.2.2.trans HS.out⟩⟩
                case measure => simp [intOf]; omega
            · have HS := Lib.hid (hs.trans (by simp [hp] : _ = slotsOk (((ws.drop (a + 1)).take m).drop (k + 1)) false ptrs (k + 1)))
              clear stop hs
              go_wp2
              go_roundw
              case rel => exact ⟨k + 1, by go_num, by omega, Lib.hid ⟨HI.out.1, HI.out.2.1, HI.out.2.2.trans HS.out⟩⟩
              case measure => simp [intOf]; omega
          · by_cases h0 : x = 0
            · subst h0
              have HS := Lib.hid (hs.trans (by simp [isPtr] : _ = slotsOk (((ws.drop (a + 1)).take m).drop (k + 1)) true ptrs (k + 1)))
              clear stop hs
              go_wp2
              go_roundw
              case rel => exact ⟨k + 1, by go_num, by omega, Lib.hid ⟨HI.out.1, HI.out.2.1, HI.out.2.2.trans HS.out⟩⟩
              case measure => simp [intOf]; omega
            · have HE2 := Lib.hid (stop (by rw [hs]; simp [h0]))
              clear stop hs
              go_wp2
              exact ⟨rfl, HE2.out.symm, HI.out.1⟩
        · have : k = m := by omega
          subst this
          have h3 := HI.out.2.2
          have hd : ((ws.drop (a + 1)).take k).drop k = [] := List.drop_of_length_le (by rw [List.length_take]; omega)
          rw [hd] at h3
          have HE2 := Lib.hid (HE.out.trans (by rw [h3]; rfl : _ = Ending.returned (.tuple #[])))
          clear h3 hd
          go_wp2
          go_end0
          exact ⟨HE2.out.symm, HI.out.1⟩
end Vm
/-
  objects.begin.
-/
namespace Vm
open Go Go.Proofs Go.RowKit
set_option maxHeartbeats 1000000
set_option maxRecDepth 100000
set_option linter.unusedSimpArgs false
set_option linter.unusedVariables false
theorem neq_nil (w : World) : Sem.run Try.prog (binOp .neq 177 .nilFunc .nilFunc) w = .ok (.bool false) w := by rfl
theorem neq_fn (w : World) (f : FuncId) (vs : Array Value) : Sem.run Try.prog (binOp .neq 177 (.func (.func f) #[] vs) .nilFunc) w = .ok (.bool true) w := by rfl
theorem row5 {w : World} {b : Nat} {T : TypeId} {v0 v1 v2 v3 v4 : Value} (h : w.heap[b]? = some (.cells #[v0, v1, v2, v3, v4] T (0, 0))) (O : Obj) :
    ((w.alloc O).cell? ⟨b, 0, none⟩ = some v0 ∧ (w.alloc O).cell? ⟨b, 1, none⟩ = some v1 ∧ (w.alloc O).cell? ⟨b, 2, none⟩ = some v2 ∧ (w.alloc O).cell? ⟨b, 3, none⟩ = some v3 ∧ (w.alloc O).cell? ⟨b, 4, none⟩ = some v4) ∧
    (w.alloc O).frozen? ⟨b, 0, none⟩ = false ∧ (w.alloc O).frozen? ⟨b, 1, none⟩ = false ∧ (w.alloc O).frozen? ⟨b, 2, none⟩ = false ∧ (w.alloc O).frozen? ⟨b, 3, none⟩ = false ∧ (w.alloc O).frozen? ⟨b, 4, none⟩ = false := by
  have h' : (w.alloc O).heap[b]? = some (.cells #[v0, v1, v2, v3, v4] T (0, 0)) := (Below.heap_alloc _ _ _ (heap_lt h)).trans h
  refine ⟨⟨?_, ?_, ?_, ?_, ?_⟩, frz_of h', frz_of h', frz_of h', frz_of h', frz_of h'⟩ <;> (rw [cell_of_row _ _ _ _ _ _ h']; rfl)
/-- how begin ends where nothing was copied -/
def begE (a : Nat) (x : Int) : Ending := if (unpk x).2.2 = 0 then .returned (obA ⟨a, (unpk x).1, (unpk x).2.1, false, 0⟩) else .panicked (wrongA 3)
theorem begin_new (w : World) (ws : List Int) (g o cap : Nat) (hw : Words w ws g o cap) (hg : g < w.heap.size) (a : Nat) (x : Int) (hx : ws[a]? = some x) :
    Calls Try.prog 130 #[.slice (some ⟨g, o, none⟩) ws.length cap, .int .i64 a, .nilFunc] w fun e w' => e = begE a x ∧ Below w.heap.size w w' := by
  have hl := hw.len
  have hc := hw.le
  have hm := hw.cap
  have hlt : a < ws.length := (List.getElem?_eq_some_iff.1 hx).1
  have hlt' : (a : Int) < ws.length := by omega
  have hu : U64 x := hw.u64 x (List.mem_of_getElem? hx)
  have c0 := hw.at_ a x hx
  have cc : ∀ W, Below w.heap.size w W → W.cell? ⟨g, o + a, none⟩ = some (.int .u64 x) := fun W hb => (hb.cell (p := ⟨g, o + a, none⟩) hg).trans c0
  have he : begE a x = if (unpk x).2.2 = 0 then .returned (obA ⟨a, (unpk x).1, (unpk x).2.1, false, 0⟩) else .panicked (wrongA 3) := rfl
  generalize begE a x = E at *
  have HC := Lib.hid cc
  have hnil := neq_nil
  clear hw hx cc
  by_cases h0 : (unpk x).2.2 = 0
  · rw [if_pos h0] at he
    have HE := Lib.hid he
    clear he
    go_enter Try.func130, Try.ntmps130
    go_wp2_with (first
      | (go_at_call 57; refine (adr_calls hu _).mono ?_; rintro e w1 ⟨rfl, hb1⟩; have HB1 := Lib.hid hb1; have d0 := HC.out w1 (((((Below.refl _ w).alloc (Nat.le_refl _) _).alloc (by simp) _).trans (hb1.mono (by simp; omega)))); clear hb1)
      | (go_at_call 60; refine (unpk_calls hu _).mono ?_; rintro e w2 ⟨rfl, hb2⟩; have HB2 := Lib.hid hb2
         have hB := HB1.out.block
         have r0 : w2.heap[w.heap.size]? = some (.cells #[.int .i64 0, .int .i64 0, .int .i64 0, .bool false, .int .u64 0] 57 (0, 0)) := (hb2.block _ (by have := HB1.out.size; simp at this; omega)).trans ((HB1.out.block _ (by simp; omega)).trans ((Below.heap_alloc _ _ _ (by simp)).trans (heap_alloc_new w _)))
         have r1 : w2.heap[w.heap.size + 1]? = some (.cells #[.int .i64 a, .int .i64 0, .int .i64 0, .bool false, .int .u64 0] 57 (0, 0)) := (hb2.block _ (by have := HB1.out.size; simp at this; omega)).trans ((HB1.out.block _ (by simp)).trans (by have := heap_alloc_new (w.alloc (.cells #[.int .i64 0, .int .i64 0, .int .i64 0, .bool false, .int .u64 0] 57)) (.cells #[.int .i64 a, .int .i64 0, .int .i64 0, .bool false, .int .u64 0] 57); simpa using this))
         obtain ⟨⟨x0, x1, x2, x3, x4⟩, y0, y1, y2, y3, y4⟩ := row5 r0 (.cells #[.int .i64 (unpk x).1, .int .i64 (unpk x).2.1] 55)
         obtain ⟨⟨p0, p1, p2, p3, p4⟩, q0, q1, q2, q3, q4⟩ := row5 r1 (.cells #[.int .i64 (unpk x).1, .int .i64 (unpk x).2.1] 55)
         have HR := Lib.hid (And.intro r0 r1)
         clear hb2 hB r0 r1))
    refine bodyPost_ret (v := obA ⟨a, (unpk x).1, (unpk x).2.1, false, 0⟩) ?_ rfl ⟨HE.out.symm, ?_⟩
    · simp [results, Try.results130, go_sem, obA, x0, x1, x2, x3, x4]
    · have h1 := (((Below.refl _ w).alloc (Nat.le_refl _) (.cells #[.int .i64 0, .int .i64 0, .int .i64 0, .bool false, .int .u64 0] 57)).alloc (by simp) (.cells #[.int .i64 a, .int .i64 0, .int .i64 0, .bool false, .int .u64 0] 57)).trans (HB1.out.mono (by simp; omega))
      have h2 := (h1.trans (HB2.out.mono (by have := h1.size; omega))).alloc (by have := h1.size; have := HB2.out.size; omega) (.cells #[.int .i64 (unpk x).1, .int .i64 (unpk x).2.1] 55)
      exact ((((((h2.setCell (p := ⟨w.heap.size + 1, 1, none⟩) (by simp) _).setCell (p := ⟨w.heap.size + 1, 2, none⟩) (by simp) _).setCell (p := ⟨w.heap.size, 0, none⟩) (Nat.le_refl _) _).setCell (p := ⟨w.heap.size, 1, none⟩) (Nat.le_refl _) _).setCell (p := ⟨w.heap.size, 2, none⟩) (Nat.le_refl _) _).setCell (p := ⟨w.heap.size, 3, none⟩) (Nat.le_refl _) _).setCell (p := ⟨w.heap.size, 4, none⟩) (Nat.le_refl _) _
  · rw [if_neg h0] at he
    have HE := Lib.hid he
    clear he
    have h0' : ((unpk x).2.2 = 0) = False := eq_false h0
    go_enter Try.func130, Try.ntmps130
    go_wp2_with (first
      | (go_at_call 57; refine (adr_calls hu _).mono ?_; rintro e w1 ⟨rfl, hb1⟩; have HB1 := Lib.hid hb1; have d0 := HC.out w1 (((((Below.refl _ w).alloc (Nat.le_refl _) _).alloc (by simp) _).trans (hb1.mono (by simp; omega)))); clear hb1)
      | (go_at_call 60; refine (unpk_calls hu _).mono ?_; rintro e w2 ⟨rfl, hb2⟩; have HB2 := Lib.hid hb2; clear hb2))
    refine ⟨rfl, HE.out.symm, ?_⟩
    have h1 := (((Below.refl _ w).alloc (Nat.le_refl _) (.cells #[.int .i64 0, .int .i64 0, .int .i64 0, .bool false, .int .u64 0] 57)).alloc (by simp) (.cells #[.int .i64 a, .int .i64 0, .int .i64 0, .bool false, .int .u64 0] 57)).trans (HB1.out.mono (by simp; omega))
    exact (h1.trans (HB2.out.mono (by have := h1.size; omega))).alloc (by have := h1.size; have := HB2.out.size; omega) _
end Vm
/-
  objects.WalkOld's function that tells shapes.
-/
namespace Vm
open Go Go.Proofs Go.RowKit
set_option maxHeartbeats 1000000
set_option maxRecDepth 100000
set_option linter.unusedSimpArgs false
set_option linter.unusedVariables false
theorem shapeOk_calls (s p : Int) (w : World) : Calls Try.prog 91 #[.agg #[.int .i64 s, .int .i64 p]] w fun e w' => e = .returned (.bool (shapeOk s p)) ∧ Below w.heap.size w w' :=
  calls_flat right5_vc rfl rfl w
/-- a list of shapes, in a variable -/
structure Shps (w : World) (shs : List (Int × Int)) (bs : Nat) (v : Value) : Prop where
  box : w.heap[bs]? = some (.cells #[v] 154 (0, 0))
  val : (∃ g o cap, v = .slice (some ⟨g, o, none⟩) shs.length cap ∧ shs.length ≤ cap ∧ cap ≤ maxLen ∧ g < w.heap.size ∧ ∀ (i : Nat) (x : Int × Int), shs[i]? = some x → w.cell? ⟨g, o + i * 2, none⟩ = some (.int .i64 x.1) ∧ w.cell? ⟨g, o + i * 2 + 1, none⟩ = some (.int .i64 x.2)) ∨
    (∃ a cap, v = .slice a 0 cap ∧ shs = [])
theorem gone_end (w : World) (shs : List (Int × Int)) (bt bs : Nat) (v : Value) (hl : shs.length ≤ 1000000) (hs : Shps w shs bs v) (hb : w.heap[bt]? = some (.cells #[.int .i64 shs.length] 3 (0, 0))) :
    Calls Try.prog 125 #[.pointer (some ⟨bt, 0, none⟩), .pointer (some ⟨bs, 0, none⟩)] w fun e w' => e = .panicked (wrongA 3) ∧ Below w.heap.size w w' := by
  have c0 : w.cell? ⟨bt, 0, none⟩ = some (.int .i64 shs.length) := by rw [cell_of_row _ _ _ _ _ _ hb]; rfl
  have hbl := heap_lt hb
  have hbl2 := heap_lt hs.box
  have c1 : w.cell? ⟨bs, 0, none⟩ = some v := by rw [cell_of_row _ _ _ _ _ _ hs.box]; rfl
  rcases hs.val with ⟨g, o, cap, rfl, h1, h2, h3, h4⟩ | ⟨a, cap, rfl, rfl⟩
  · clear h4 hs hb
    go_enter Try.func125, Try.ntmps125
    go_wp2
    exact ⟨rfl, rfl, (Below.refl _ _).alloc (Nat.le_refl _) _⟩
  · clear hs hb
    simp only [List.length_nil] at c0
    go_enter Try.func125, Try.ntmps125
    go_wp2
    exact ⟨rfl, rfl, (Below.refl _ _).alloc (Nat.le_refl _) _⟩
theorem gone_bad (w : World) (shs : List (Int × Int)) (bt bs t : Nat) (v : Value) (x : Int × Int) (hl : shs.length ≤ 1000000) (hs : Shps w shs bs v) (hb : w.heap[bt]? = some (.cells #[.int .i64 t] 3 (0, 0))) (hx : shs[t]? = some x) (hn : shapeOk x.1 x.2 = false) :
    Calls Try.prog 125 #[.pointer (some ⟨bt, 0, none⟩), .pointer (some ⟨bs, 0, none⟩)] w fun e w' => e = .panicked (wrongA 3) ∧ Below w.heap.size w w' := by
  have c0 : w.cell? ⟨bt, 0, none⟩ = some (.int .i64 t) := by rw [cell_of_row _ _ _ _ _ _ hb]; rfl
  have hbl := heap_lt hb
  have hbl2 := heap_lt hs.box
  have hlt : t < shs.length := (List.getElem?_eq_some_iff.1 hx).1
  have hne : ¬ t = shs.length := by omega
  have hlt' : (t : Int) < shs.length := by omega
  have c1 : w.cell? ⟨bs, 0, none⟩ = some v := by rw [cell_of_row _ _ _ _ _ _ hs.box]; rfl
  rcases hs.val with ⟨g, o, cap, rfl, h1, h2, h3, h4⟩ | ⟨a, cap, rfl, rfl⟩
  · obtain ⟨d0, d1⟩ := h4 t x hx
    have e2 := shapeOk_calls x.1 x.2
    rw [hn] at e2
    clear h4 hs hb hx hn
    go_enter Try.func125, Try.ntmps125
    go_wp2_with (go_at_call 91; refine (e2 _).mono ?_; rintro e w1 ⟨rfl, hb1⟩; have HB1 := Lib.hid hb1; clear hb1)
    exact ⟨rfl, rfl, ((Below.refl _ w).alloc (Nat.le_refl _) _).trans (HB1.out.mono (by simp))⟩
  · simp at hx
theorem gone_ok (w : World) (shs : List (Int × Int)) (bt bs t : Nat) (v : Value) (x : Int × Int) (hl : shs.length ≤ 1000000) (hs : Shps w shs bs v) (hb : w.heap[bt]? = some (.cells #[.int .i64 t] 3 (0, 0))) (hx : shs[t]? = some x) (hn : shapeOk x.1 x.2 = true) (hbs : bs ≠ bt)
    (hgb : ∀ g o cap, v = .slice (some ⟨g, o, none⟩) shs.length cap → g ≠ bt) :
    Calls Try.prog 125 #[.pointer (some ⟨bt, 0, none⟩), .pointer (some ⟨bs, 0, none⟩)] w fun e w' => e = .returned (.agg #[.int .i64 x.1, .int .i64 x.2]) ∧ w.grownBy w' (some bt) ∧ w'.heap[bt]? = some (.cells #[.int .i64 ((t + 1 : Nat) : Int)] 3 (0, 0)) := by
  have c0 : w.cell? ⟨bt, 0, none⟩ = some (.int .i64 t) := by rw [cell_of_row _ _ _ _ _ _ hb]; rfl
  have hbl := heap_lt hb
  have hbl2 := heap_lt hs.box
  have hlt : t < shs.length := (List.getElem?_eq_some_iff.1 hx).1
  have hne : ¬ t = shs.length := by omega
  have hlt' : (t : Int) < shs.length := by omega
  have c1 : w.cell? ⟨bs, 0, none⟩ = some v := by rw [cell_of_row _ _ _ _ _ _ hs.box]; rfl
  have hf := frz_of (o := 0) hb
  have hbs' : ¬ bs = bt := hbs
  have hbs2 : ¬ bt = bs := fun e => hbs e.symm
  rcases hs.val with ⟨g, o, cap, rfl, h1, h2, h3, h4⟩ | ⟨a, cap, rfl, rfl⟩
  · obtain ⟨d0, d1⟩ := h4 t x hx
    have hg := hgb g o cap rfl
    have e2 := shapeOk_calls x.1 x.2
    rw [hn] at e2
    have HB := Lib.hid hb
    clear h4 hs hb hx hn hgb
    go_enter Try.func125, Try.ntmps125
    go_wp2_with (go_at_call 91; refine (e2 _).mono ?_; rintro e w1 ⟨rfl, hb1⟩
                 have HB1 := Lib.hid hb1
                 have s1 := hb1.size
                 have k0 : w1.cell? ⟨bt, 0, none⟩ = some (.int .i64 t) := (hb1.cell (p := ⟨bt, 0, none⟩) (by simp; omega)).trans ((World.cell?_alloc_lt _ _ _ hbl).trans c0)
                 have k1 : w1.frozen? ⟨bt, 0, none⟩ = false := frz_of ((hb1.block bt (by simp; omega)).trans ((Below.heap_alloc _ _ _ hbl).trans HB.out))
                 have k2 : w1.cell? ⟨bs, 0, none⟩ = some (.slice (some ⟨g, o, none⟩) shs.length cap) := (hb1.cell (p := ⟨bs, 0, none⟩) (by simp; omega)).trans ((World.cell?_alloc_lt _ _ _ hbl2).trans c1)
                 have k3 : w1.cell? ⟨g, o + t * 2, none⟩ = some (.int .i64 x.1) := (hb1.cell (p := ⟨g, o + t * 2, none⟩) (by simp; omega)).trans ((World.cell?_alloc_lt _ _ _ h3).trans d0)
                 have k4 : w1.cell? ⟨g, o + t * 2 + 1, none⟩ = some (.int .i64 x.2) := (hb1.cell (p := ⟨g, o + t * 2 + 1, none⟩) (by simp; omega)).trans ((World.cell?_alloc_lt _ _ _ h3).trans d1)
                 have r0 : w1.heap[w.heap.size]? = some (.cells #[.int .i64 0, .int .i64 0] 55 (0, 0)) := (hb1.block _ (by simp)).trans (heap_alloc_new w _)
                 have x0 : w1.cell? ⟨w.heap.size, 0, none⟩ = some (.int .i64 0) := by rw [cell_of_row _ _ _ _ _ _ r0]; rfl
                 have x1 : w1.cell? ⟨w.heap.size, 1, none⟩ = some (.int .i64 0) := by rw [cell_of_row _ _ _ _ _ _ r0]; rfl
                 have y0 := frz_of (o := 0) r0
                 have y1 := frz_of (o := 1) r0
                 have n1 : ¬ w.heap.size = bt := by omega
                 have n2 : ¬ bt = w.heap.size := by omega
                 have HR := Lib.hid r0
                 clear hb1 r0)
    have hB : Below w.heap.size w w1 := ((Below.refl _ w).alloc (Nat.le_refl _) (.cells #[.int .i64 0, .int .i64 0] 55)).trans (HB1.out.mono (by simp))
    have hw1 : w1.heap[bt]? = some (.cells #[.int .i64 t] 3 (0, 0)) := (hB.block bt hbl).trans HB.out
    refine bodyPost_ret (v := .agg #[.int .i64 x.1, .int .i64 x.2]) ?_ rfl ⟨rfl, ⟨hB.os, hB.tape, hB.output, ?_, fun k hk hne => ?_⟩, ?_⟩
    · simp [results, Try.results125, go_sem, x0, x1, n1, n2]
    · simp [World.setCell]; exact hB.size
    · have hkb : k ≠ bt := fun e => hne (by rw [e])
      rw [Below.heap_setCell _ _ _ _ (by show k ≠ w.heap.size; omega), Below.heap_setCell _ _ _ _ (by show k ≠ w.heap.size; omega), Below.heap_setCell _ _ _ _ hkb]
      exact hB.block k hk
    · rw [Below.heap_setCell _ _ _ _ (by show bt ≠ w.heap.size; omega), Below.heap_setCell _ _ _ _ (by show bt ≠ w.heap.size; omega)]
      simp [World.setCell, Array.getElem?_modify, hw1]
  · simp at hx
end Vm
/-
  objects.begin where objects may be gone.
-/
namespace Vm
open Go Go.Proofs Go.RowKit
set_option maxHeartbeats 1000000
set_option maxRecDepth 100000
set_option linter.unusedSimpArgs false
set_option linter.unusedVariables false
theorem begin_old_new (w : World) (f : FuncId) (vs : Array Value) (ws : List Int) (g o cap : Nat) (hw : Words w ws g o cap) (hg : g < w.heap.size) (a : Nat) (x : Int) (hx : ws[a]? = some x) (hna : ¬ (adr x).2 = 0) :
    Calls Try.prog 130 #[.slice (some ⟨g, o, none⟩) ws.length cap, .int .i64 a, .func (.func f) #[] vs] w fun e w' => e = begE a x ∧ Below w.heap.size w w' := by
  have hl := hw.len
  have hc := hw.le
  have hm := hw.cap
  have hlt : a < ws.length := (List.getElem?_eq_some_iff.1 hx).1
  have hlt' : (a : Int) < ws.length := by omega
  have hu : U64 x := hw.u64 x (List.mem_of_getElem? hx)
  have c0 := hw.at_ a x hx
  have cc : ∀ W, Below w.heap.size w W → W.cell? ⟨g, o + a, none⟩ = some (.int .u64 x) := fun W hb => (hb.cell (p := ⟨g, o + a, none⟩) hg).trans c0
  have he : begE a x = if (unpk x).2.2 = 0 then .returned (obA ⟨a, (unpk x).1, (unpk x).2.1, false, 0⟩) else .panicked (wrongA 3) := rfl
  generalize begE a x = E at *
  have HC := Lib.hid cc
  have hfn := fun W => neq_fn W f vs
  have hna' : ((adr x).2 = 0) = False := eq_false hna
  clear hw hx cc
  by_cases h0 : (unpk x).2.2 = 0
  · rw [if_pos h0] at he
    have HE := Lib.hid he
    clear he
    go_enter Try.func130, Try.ntmps130
    go_wp2_with (first
      | (go_at_call 57; refine (adr_calls hu _).mono ?_; rintro e w1 ⟨rfl, hb1⟩; have HB1 := Lib.hid hb1; have d0 := HC.out w1 (((((Below.refl _ w).alloc (Nat.le_refl _) _).alloc (by simp) _).trans (hb1.mono (by simp; omega)))); clear hb1)
      | (go_at_call 60; refine (unpk_calls hu _).mono ?_; rintro e w2 ⟨rfl, hb2⟩; have HB2 := Lib.hid hb2
         have hB := HB1.out.block
         have r0 : w2.heap[w.heap.size]? = some (.cells #[.int .i64 0, .int .i64 0, .int .i64 0, .bool false, .int .u64 0] 57 (0, 0)) := (hb2.block _ (by have := HB1.out.size; simp at this; omega)).trans ((HB1.out.block _ (by simp; omega)).trans ((Below.heap_alloc _ _ _ (by simp)).trans (heap_alloc_new w _)))
         have r1 : w2.heap[w.heap.size + 1]? = some (.cells #[.int .i64 a, .int .i64 0, .int .i64 0, .bool false, .int .u64 0] 57 (0, 0)) := (hb2.block _ (by have := HB1.out.size; simp at this; omega)).trans ((HB1.out.block _ (by simp)).trans (by have := heap_alloc_new (w.alloc (.cells #[.int .i64 0, .int .i64 0, .int .i64 0, .bool false, .int .u64 0] 57)) (.cells #[.int .i64 a, .int .i64 0, .int .i64 0, .bool false, .int .u64 0] 57); simpa using this))
         obtain ⟨⟨x0, x1, x2, x3, x4⟩, y0, y1, y2, y3, y4⟩ := row5 r0 (.cells #[.int .i64 (unpk x).1, .int .i64 (unpk x).2.1] 55)
         obtain ⟨⟨p0, p1, p2, p3, p4⟩, q0, q1, q2, q3, q4⟩ := row5 r1 (.cells #[.int .i64 (unpk x).1, .int .i64 (unpk x).2.1] 55)
         have HR := Lib.hid (And.intro r0 r1)
         clear hb2 hB r0 r1))
    refine bodyPost_ret (v := obA ⟨a, (unpk x).1, (unpk x).2.1, false, 0⟩) ?_ rfl ⟨HE.out.symm, ?_⟩
    · simp [results, Try.results130, go_sem, obA, x0, x1, x2, x3, x4]
    · have h1 := (((Below.refl _ w).alloc (Nat.le_refl _) (.cells #[.int .i64 0, .int .i64 0, .int .i64 0, .bool false, .int .u64 0] 57)).alloc (by simp) (.cells #[.int .i64 a, .int .i64 0, .int .i64 0, .bool false, .int .u64 0] 57)).trans (HB1.out.mono (by simp; omega))
      have h2 := (h1.trans (HB2.out.mono (by have := h1.size; omega))).alloc (by have := h1.size; have := HB2.out.size; omega) (.cells #[.int .i64 (unpk x).1, .int .i64 (unpk x).2.1] 55)
      exact ((((((h2.setCell (p := ⟨w.heap.size + 1, 1, none⟩) (by simp) _).setCell (p := ⟨w.heap.size + 1, 2, none⟩) (by simp) _).setCell (p := ⟨w.heap.size, 0, none⟩) (Nat.le_refl _) _).setCell (p := ⟨w.heap.size, 1, none⟩) (Nat.le_refl _) _).setCell (p := ⟨w.heap.size, 2, none⟩) (Nat.le_refl _) _).setCell (p := ⟨w.heap.size, 3, none⟩) (Nat.le_refl _) _).setCell (p := ⟨w.heap.size, 4, none⟩) (Nat.le_refl _) _
  · rw [if_neg h0] at he
    have HE := Lib.hid he
    clear he
    have h0' : ((unpk x).2.2 = 0) = False := eq_false h0
    go_enter Try.func130, Try.ntmps130
    go_wp2_with (first
      | (go_at_call 57; refine (adr_calls hu _).mono ?_; rintro e w1 ⟨rfl, hb1⟩; have HB1 := Lib.hid hb1; have d0 := HC.out w1 (((((Below.refl _ w).alloc (Nat.le_refl _) _).alloc (by simp) _).trans (hb1.mono (by simp; omega)))); clear hb1)
      | (go_at_call 60; refine (unpk_calls hu _).mono ?_; rintro e w2 ⟨rfl, hb2⟩; have HB2 := Lib.hid hb2; clear hb2))
    refine ⟨rfl, HE.out.symm, ?_⟩
    have h1 := (((Below.refl _ w).alloc (Nat.le_refl _) (.cells #[.int .i64 0, .int .i64 0, .int .i64 0, .bool false, .int .u64 0] 57)).alloc (by simp) (.cells #[.int .i64 a, .int .i64 0, .int .i64 0, .bool false, .int .u64 0] 57)).trans (HB1.out.mono (by simp; omega))
    exact (h1.trans (HB2.out.mono (by have := h1.size; omega))).alloc (by have := h1.size; have := HB2.out.size; omega) _
theorem begin_gone_bad (w : World) (vs : Array Value) (ws : List Int) (g o cap : Nat) (hw : Words w ws g o cap) (hg : g < w.heap.size) (a : Nat) (x : Int) (hx : ws[a]? = some x) (hna : (adr x).2 = 0)
    (hcall : ∀ W, Below w.heap.size w W → Calls Try.prog 125 vs W fun e W' => e = .panicked (wrongA 3) ∧ Below W.heap.size W W') :
    Calls Try.prog 130 #[.slice (some ⟨g, o, none⟩) ws.length cap, .int .i64 a, .func (.func 125) #[] vs] w fun e w' => e = .panicked (wrongA 3) ∧ Below w.heap.size w w' := by
  have hl := hw.len
  have hc := hw.le
  have hm := hw.cap
  have hlt : a < ws.length := (List.getElem?_eq_some_iff.1 hx).1
  have hlt' : (a : Int) < ws.length := by omega
  have hu : U64 x := hw.u64 x (List.mem_of_getElem? hx)
  have c0 := hw.at_ a x hx
  have hfn := fun W => neq_fn W 125 vs
  have HX := Lib.hid hcall
  clear hw hx hcall
  go_enter Try.func130, Try.ntmps130
  go_wp2_with (first
    | (go_at_call 57; refine (adr_calls hu _).mono ?_; rintro e w1 ⟨rfl, hb1⟩
       have hB : Below w.heap.size w w1 := ((((Below.refl _ w).alloc (Nat.le_refl _) _).alloc (by simp) _).trans (hb1.mono (by simp; omega)))
       have r1 : w1.heap[w.heap.size + 1]? = some (.cells #[.int .i64 a, .int .i64 0, .int .i64 0, .bool false, .int .u64 0] 57 (0, 0)) := (hb1.block _ (by simp)).trans (by have := heap_alloc_new (w.alloc (.cells #[.int .i64 0, .int .i64 0, .int .i64 0, .bool false, .int .u64 0] 57)) (.cells #[.int .i64 a, .int .i64 0, .int .i64 0, .bool false, .int .u64 0] 57); simpa using this)
       have p3 : w1.cell? ⟨w.heap.size + 1, 3, none⟩ = some (.bool false) := by rw [cell_of_row _ _ _ _ _ _ r1]; rfl
       have p4 : w1.cell? ⟨w.heap.size + 1, 4, none⟩ = some (.int .u64 0) := by rw [cell_of_row _ _ _ _ _ _ r1]; rfl
       have q3 := frz_of (o := 3) r1
       have q4 := frz_of (o := 4) r1
       have HB := Lib.hid hB
       clear hb1 hB r1)
    | (go_at_call 125; refine (HX.out _ ?_).mono ?_; rotate_left; rintro e w2 ⟨rfl, hb2⟩; have HB2 := Lib.hid hb2; clear hb2))
  case refine_1 => exact (HB.out.setCell (p := ⟨w.heap.size + 1, 3, none⟩) (by simp) _).setCell (p := ⟨w.heap.size + 1, 4, none⟩) (by simp) _
  case refine_2 =>
    have h2 := (HB.out.setCell (p := ⟨w.heap.size + 1, 3, none⟩) (by simp) (.bool true)).setCell (p := ⟨w.heap.size + 1, 4, none⟩) (by simp) (.int .u64 (adr x).1)
    exact ⟨rfl, rfl, h2.trans (HB2.out.mono h2.size)⟩
theorem grown_set {w W : World} {r : Option Nat} (h : w.grownBy W r) {p : Addr} (hp : w.heap.size ≤ p.block) (u : Value) : w.grownBy (W.setCell p u) r :=
  ⟨h.os, h.tape, h.output, by simpa [World.setCell] using h.size, fun k hk hne => (Below.heap_setCell _ _ _ _ (by omega)).trans (h.block k hk hne)⟩
theorem begin_gone_ok (w : World) (vs : Array Value) (ws : List Int) (g o cap : Nat) (hw : Words w ws g o cap) (hg : g < w.heap.size) (a : Nat) (x : Int) (hx : ws[a]? = some x) (hna : (adr x).2 = 0)
    (bt : Nat) (O : Obj) (s p : Int) (hbt : bt < w.heap.size)
    (hcall : ∀ W, Below w.heap.size w W → Calls Try.prog 125 vs W fun e W' => e = .returned (.agg #[.int .i64 s, .int .i64 p]) ∧ W.grownBy W' (some bt) ∧ W'.heap[bt]? = some O) :
    Calls Try.prog 130 #[.slice (some ⟨g, o, none⟩) ws.length cap, .int .i64 a, .func (.func 125) #[] vs] w fun e w' => e = .returned (obA ⟨a, s, p, true, (adr x).1⟩) ∧ w.grownBy w' (some bt) ∧ w'.heap[bt]? = some O := by
  have hl := hw.len
  have hc := hw.le
  have hm := hw.cap
  have hlt : a < ws.length := (List.getElem?_eq_some_iff.1 hx).1
  have hlt' : (a : Int) < ws.length := by omega
  have hu : U64 x := hw.u64 x (List.mem_of_getElem? hx)
  have c0 := hw.at_ a x hx
  have hfn := fun W => neq_fn W 125 vs
  have HX := Lib.hid hcall
  clear hw hx hcall
  go_enter Try.func130, Try.ntmps130
  go_wp2_with (first
    | (go_at_call 57; refine (adr_calls hu _).mono ?_; rintro e w1 ⟨rfl, hb1⟩
       have hB : Below w.heap.size w w1 := ((((Below.refl _ w).alloc (Nat.le_refl _) _).alloc (by simp) _).trans (hb1.mono (by simp; omega)))
       have r1 : w1.heap[w.heap.size + 1]? = some (.cells #[.int .i64 a, .int .i64 0, .int .i64 0, .bool false, .int .u64 0] 57 (0, 0)) := (hb1.block _ (by simp)).trans (by have := heap_alloc_new (w.alloc (.cells #[.int .i64 0, .int .i64 0, .int .i64 0, .bool false, .int .u64 0] 57)) (.cells #[.int .i64 a, .int .i64 0, .int .i64 0, .bool false, .int .u64 0] 57); simpa using this)
       have p3 : w1.cell? ⟨w.heap.size + 1, 3, none⟩ = some (.bool false) := by rw [cell_of_row _ _ _ _ _ _ r1]; rfl
       have p4 : w1.cell? ⟨w.heap.size + 1, 4, none⟩ = some (.int .u64 0) := by rw [cell_of_row _ _ _ _ _ _ r1]; rfl
       have q3 := frz_of (o := 3) r1
       have q4 := frz_of (o := 4) r1
       have r0 : w1.heap[w.heap.size]? = some (.cells #[.int .i64 0, .int .i64 0, .int .i64 0, .bool false, .int .u64 0] 57 (0, 0)) := (hb1.block _ (by simp; omega)).trans ((Below.heap_alloc _ _ _ (by simp)).trans (heap_alloc_new w _))
       have HR := Lib.hid (And.intro r0 r1)
       have HB := Lib.hid hB
       clear hb1 hB r0 r1)
    | (go_at_call 125; refine (HX.out _ ?_).mono ?_; rotate_left; rintro e w2 ⟨rfl, hb2, ho2⟩
       have HB2 := Lib.hid hb2
       have HO2 := Lib.hid ho2
       have z1 : w2.heap[w.heap.size + 1]? = some (.cells #[.int .i64 a, .int .i64 0, .int .i64 0, .bool true, .int .u64 (adr x).1] 57 (0, 0)) := (hb2.block _ (by simp [World.setCell]; exact heap_lt HR.out.2) (by simp; omega)).trans (by simp [World.setCell, Array.getElem?_modify, HR.out.2])
       have z0 : w2.heap[w.heap.size]? = some (.cells #[.int .i64 0, .int .i64 0, .int .i64 0, .bool false, .int .u64 0] 57 (0, 0)) := (hb2.block _ (by simp [World.setCell]; exact heap_lt HR.out.1) (by simp; omega)).trans (by simp [World.setCell, Array.getElem?_modify, HR.out.1])
       have s0 : w2.cell? ⟨w.heap.size + 1, 0, none⟩ = some (.int .i64 a) := by rw [cell_of_row _ _ _ _ _ _ z1]; rfl
       have s1 : w2.cell? ⟨w.heap.size + 1, 1, none⟩ = some (.int .i64 0) := by rw [cell_of_row _ _ _ _ _ _ z1]; rfl
       have s2 : w2.cell? ⟨w.heap.size + 1, 2, none⟩ = some (.int .i64 0) := by rw [cell_of_row _ _ _ _ _ _ z1]; rfl
       have s3 : w2.cell? ⟨w.heap.size + 1, 3, none⟩ = some (.bool true) := by rw [cell_of_row _ _ _ _ _ _ z1]; rfl
       have s4 : w2.cell? ⟨w.heap.size + 1, 4, none⟩ = some (.int .u64 (adr x).1) := by rw [cell_of_row _ _ _ _ _ _ z1]; rfl
       have t0 : w2.cell? ⟨w.heap.size, 0, none⟩ = some (.int .i64 0) := by rw [cell_of_row _ _ _ _ _ _ z0]; rfl
       have t1 : w2.cell? ⟨w.heap.size, 1, none⟩ = some (.int .i64 0) := by rw [cell_of_row _ _ _ _ _ _ z0]; rfl
       have t2 : w2.cell? ⟨w.heap.size, 2, none⟩ = some (.int .i64 0) := by rw [cell_of_row _ _ _ _ _ _ z0]; rfl
       have t3 : w2.cell? ⟨w.heap.size, 3, none⟩ = some (.bool false) := by rw [cell_of_row _ _ _ _ _ _ z0]; rfl
       have t4 : w2.cell? ⟨w.heap.size, 4, none⟩ = some (.int .u64 0) := by rw [cell_of_row _ _ _ _ _ _ z0]; rfl
       have u1 := frz_of (o := 1) z1
       have u2 := frz_of (o := 2) z1
       have v0 := frz_of (o := 0) z0
       have v1 := frz_of (o := 1) z0
       have v2 := frz_of (o := 2) z0
       have v3 := frz_of (o := 3) z0
       have v4 := frz_of (o := 4) z0
       clear hb2 ho2 z0 z1))
  case refine_1 => exact (HB.out.setCell (p := ⟨w.heap.size + 1, 3, none⟩) (by simp) _).setCell (p := ⟨w.heap.size + 1, 4, none⟩) (by simp) _
  next =>
    have h2 := (HB.out.setCell (p := ⟨w.heap.size + 1, 3, none⟩) (by simp) (.bool true)).setCell (p := ⟨w.heap.size + 1, 4, none⟩) (by simp) (.int .u64 (adr x).1)
    have hg2 : w.grownBy w2 (some bt) := ⟨HB2.out.os.trans h2.os, HB2.out.tape.trans h2.tape, HB2.out.output.trans h2.output, Nat.le_trans h2.size HB2.out.size, fun k hk hne => (HB2.out.block k (Nat.lt_of_lt_of_le hk h2.size) hne).trans (h2.block k hk)⟩
    have k1 : bt ≠ w.heap.size + 1 := by omega
    have k2 : bt ≠ w.heap.size := by omega
    clear h2
    refine bodyPost_ret (v := obA ⟨a, s, p, true, (adr x).1⟩) ?_ rfl ⟨rfl, ?_, ?_⟩
    · simp [results, Try.results130, go_sem, obA, t0, t1, t2, t3, t4]
    · exact grown_set (grown_set (grown_set (grown_set (grown_set (grown_set (grown_set hg2 (by simp) _) (by simp) _) (by simp) _) (by simp) _) (by simp) _) (by simp) _) (by simp) _
    · rw [Below.heap_setCell _ _ _ _ k2, Below.heap_setCell _ _ _ _ k2, Below.heap_setCell _ _ _ _ k2, Below.heap_setCell _ _ _ _ k2, Below.heap_setCell _ _ _ _ k2, Below.heap_setCell _ _ _ _ k1, Below.heap_setCell _ _ _ _ k1]
      exact HO2.out
end Vm
/-
  objects.each's function, ranged over.
-/
namespace Vm
open Go Go.Proofs Go.RowKit Go.Shelf
set_option maxHeartbeats 1000000
set_option maxRecDepth 100000
set_option linter.unusedSimpArgs false
set_option linter.unusedVariables false
/-- the block of the row that a variable holds -/
def rowB (W : World) (bl : Nat) : Option Nat := (W.cell? ⟨bl, 0, none⟩).bind Value.ownBlock
/-- what a round keeps: all cells but the variable bl and its row -/
structure KpW (bl base : Nat) (A B : World) : Prop where
  size : A.heap.size ≤ B.heap.size
  same : ∀ k o, A.heap[k]? = some o → o.isCells = true → k ≠ bl → (k < base ∨ rowB A bl ≠ some k) → B.heap[k]? = some o
  row : ∀ k, k < A.heap.size → rowB B bl = some k → rowB A bl = some k
theorem KpW.trans {bl base : Nat} {A B C : World} (h : KpW bl base A B) (k : KpW bl base B C) : KpW bl base A C :=
  ⟨Nat.le_trans h.size k.size, fun i o hi hc hn hr => k.same i o (h.same i o hi hc hn hr) hc hn (hr.imp id fun hne e => hne (h.row i (heap_lt hi) e)), fun i hi hr => h.row i hi (k.row i (Nat.lt_of_lt_of_le hi h.size) hr)⟩
theorem KpW.put {bl base : Nat} {W : World} {l : Nat} {o : Obj} (o' : Obj) (hl : W.heap[l]? = some o) (ho : o.isCells = false) (hne : bl ≠ l) : KpW bl base W (W.putObj l o') := by
  have hcell : (W.putObj l o').cell? ⟨bl, 0, none⟩ = W.cell? ⟨bl, 0, none⟩ := World.cell?_of_block (World.putObj_heap_other (by show bl ≠ l; exact hne))
  refine ⟨(grownBy_putObj' W l o').size, fun k o2 hk hk2 _ _ => ?_, fun k _ hr => ?_⟩
  · have : k ≠ l := fun e => by rw [e, hl] at hk; cases hk; rw [ho] at hk2; cases hk2
    exact (World.putObj_heap_other this).trans hk
  · unfold rowB at hr ⊢
    rw [hcell] at hr
    exact hr
/-- what begin answers; K t: t shapes have been taken -/
def BegOk (ws : List Int) (g o cap : Nat) (gv : Value) (shs : List (Int × Int)) (old : Bool) (bt : Option Nat) (K : Nat → World → Prop) : Prop :=
  ∀ (W : World) (a t : Nat) (x : Int), Words W ws g o cap → g < W.heap.size → K t W → ws[a]? = some x →
    Calls Try.prog 130 #[.slice (some ⟨g, o, none⟩) ws.length cap, .int .i64 a, gv] W fun e W' => W.grownBy W' bt ∧ match objR shs old a t x with
      | some (ob, t') => e = .returned (obA ob) ∧ K t' W'
      | none => e = .panicked (wrongA 3)
/-- what has come when the iterator ends -/
def endS (ws : List Int) (shs : List (Int × Int)) (old : Bool) (K : Nat → World → Prop) (xs : List Ob) (W : World) : Prop :=
  ∃ t, K t W ∧ walkW ws shs old = (if t < shs.length then ([], 3) else (xs, 0))
def endP (ws : List Int) (shs : List (Int × Int)) (old : Bool) (chain : List PanicEntry) (pre : List Ob) (W : World) : Prop :=
  ∃ e, (e = 2 ∨ e = 3) ∧ chain = wrongA e ∧ walkW ws shs old = ([], e)
/-- what the iterator reads: the words, and the two variables that it has captured -/
structure Stat6 (ws : List Int) (g o cap : Nat) (sv : Value) (bw bg base bl : Nat) (bt : Option Nat) (gv : Value) (W : World) : Prop where
  words : Words W ws g o cap
  sv_ : sv = .slice (some ⟨g, o, none⟩) ws.length cap ∨ (ws = [] ∧ ∃ a c, sv = .slice a 0 c)
  hbw : W.heap[bw]? = some (.cells #[sv] 28 (0, 0))
  hbg : W.heap[bg]? = some (.cells #[gv] 177 (0, 0))
  gb : ws ≠ [] → ∃ ob, W.heap[g]? = some ob ∧ ob.isCells = true
  lt : g < base ∧ bw < base ∧ bg < base ∧ base ≤ W.heap.size
  ne : g ≠ bl ∧ bw ≠ bl ∧ bg ≠ bl
  nt : some g ≠ bt ∧ some bw ≠ bt ∧ some bg ≠ bt
section
variable {ws : List Int} {g o cap bw bg base bl : Nat} {bt : Option Nat} {sv gv : Value} {W W' : World}
theorem Stat6.of (h : Stat6 ws g o cap sv bw bg base bl bt gv W) (hs : W.heap.size ≤ W'.heap.size) (hb : ∀ k ob, W.heap[k]? = some ob → ob.isCells = true → k < base → k ≠ bl → some k ≠ bt → W'.heap[k]? = some ob) : Stat6 ws g o cap sv bw bg base bl bt gv W' := by
  refine ⟨⟨fun i x hx => ?_, h.words.le, h.words.cap, h.words.len, h.words.u64⟩, h.sv_, hb _ _ h.hbw rfl h.lt.2.1 h.ne.2.1 h.nt.2.1, hb _ _ h.hbg rfl h.lt.2.2.1 h.ne.2.2 h.nt.2.2, fun hn => ?_, ⟨h.lt.1, h.lt.2.1, h.lt.2.2.1, Nat.le_trans h.lt.2.2.2 hs⟩, h.ne, h.nt⟩
  · have hn : ws ≠ [] := fun e => by rw [e] at hx; simp at hx
    obtain ⟨ob, ho, hc⟩ := h.gb hn
    have h2 := hb _ _ ho hc h.lt.1 h.ne.1 h.nt.1
    rw [← h.words.at_ i x hx]
    exact World.cell?_of_block (h2.trans ho.symm)
  · obtain ⟨ob, ho, hc⟩ := h.gb hn
    exact ⟨ob, hb _ _ ho hc h.lt.1 h.ne.1 h.nt.1, hc⟩
theorem Stat6.grown (h : Stat6 ws g o cap sv bw bg base bl bt gv W) (hg : W.grownBy W' bt) : Stat6 ws g o cap sv bw bg base bl bt gv W' :=
  h.of hg.size fun k ob hk _ _ _ hn => (hg.block k (heap_lt hk) hn).trans hk
theorem Stat6.kp (h : Stat6 ws g o cap sv bw bg base bl bt gv W) (hk : KpW bl base W W') : Stat6 ws g o cap sv bw bg base bl bt gv W' :=
  h.of hk.size fun k ob hk1 hc hlt hne _ => hk.same k ob hk1 hc hne (.inl hlt)
end
theorem grown_of {W W' : World} (hb : Below W.heap.size W W') (r : Option Nat) : W.grownBy W' r := ⟨hb.os, hb.tape, hb.output, hb.size, fun k hk _ => hb.block k hk⟩
theorem beg_nil {ws : List Int} {g o cap : Nat} : BegOk ws g o cap .nilFunc [] false none (fun t _ => t = 0) := by
  intro W a t x hw hg hK hx
  refine (begin_new W ws g o cap hw hg a x hx).mono ?_
  rintro e W' ⟨rfl, hb⟩
  refine ⟨grown_of hb none, ?_⟩
  unfold objR begE
  rw [if_neg (by simp)]
  by_cases hu : (unpk x).2.2 = 0
  · simp only [hu, if_true]
    exact ⟨trivial, hK⟩
  · simp only [hu, if_false]
theorem Shps.grown {W W' : World} {shs : List (Int × Int)} {bs : Nat} {v : Value} {r : Option Nat} (h : Shps W shs bs v) (hg : W.grownBy W' r) (hbs : some bs ≠ r) (hgb : shs ≠ [] → ∀ g o cap, v = .slice (some ⟨g, o, none⟩) shs.length cap → some g ≠ r) : Shps W' shs bs v := by
  refine ⟨(hg.block _ (heap_lt h.box) hbs).trans h.box, ?_⟩
  rcases h.val with ⟨g, o, cap, rfl, h1, h2, h3, h4⟩ | ⟨a, cap, rfl, rfl⟩
  · refine .inl ⟨g, o, cap, rfl, h1, h2, Nat.lt_of_lt_of_le h3 hg.size, fun i x hx => ?_⟩
    have hb := hg.block g h3 (hgb (fun e => by rw [e] at hx; simp at hx) _ _ _ rfl)
    exact ⟨(World.cell?_of_block hb).trans (h4 i x hx).1, (World.cell?_of_block hb).trans (h4 i x hx).2⟩
  · exact .inr ⟨a, cap, rfl, rfl⟩
/-- t shapes have been taken -/
def KOld (shs : List (Int × Int)) (bt bs : Nat) (v : Value) (t : Nat) (W : World) : Prop := W.heap[bt]? = some (.cells #[.int .i64 t] 3 (0, 0)) ∧ Shps W shs bs v ∧ t ≤ shs.length
theorem beg_old {ws : List Int} {g o cap : Nat} {shs : List (Int × Int)} {bt bs : Nat} {v : Value} (hl : shs.length ≤ 1000000) (hbs : bs ≠ bt) (hgb : shs ≠ [] → ∀ g o cap, v = .slice (some ⟨g, o, none⟩) shs.length cap → g ≠ bt) :
    BegOk ws g o cap (.func (.func 125) #[] #[.pointer (some ⟨bt, 0, none⟩), .pointer (some ⟨bs, 0, none⟩)]) shs true (some bt) (KOld shs bt bs v) := by
  intro W a t x hw hg hK hx
  obtain ⟨hb, hs, ht⟩ := hK
  have hbs' : some bs ≠ some bt := fun e => hbs (by simpa using e)
  have hgb' : shs ≠ [] → ∀ g o cap, v = .slice (some ⟨g, o, none⟩) shs.length cap → some g ≠ some bt := fun hn g o cap e e2 => hgb hn g o cap e (by simpa using e2)
  have hsB : ∀ W', Below W.heap.size W W' → Shps W' shs bs v := fun W' hB => hs.grown (grown_of hB none) (by simp) (fun _ _ _ _ _ => by simp)
  have hbB : ∀ W', Below W.heap.size W W' → W'.heap[bt]? = some (.cells #[.int .i64 t] 3 (0, 0)) := fun W' hB => (hB.block _ (heap_lt hb)).trans hb
  by_cases ha : (adr x).2 = 0
  · unfold objR
    rw [if_pos ⟨rfl, ha⟩]
    cases hxs : shs[t]? with
    | none =>
      have : t = shs.length := by have := List.getElem?_eq_none_iff.1 hxs; omega
      subst this
      refine (begin_gone_bad W _ ws g o cap hw hg a x hx ha fun W' hB => gone_end W' shs bt bs v hl (hsB W' hB) (hbB W' hB)).mono ?_
      rintro e W' ⟨rfl, hB⟩
      exact ⟨grown_of hB _, rfl⟩
    | some s =>
      simp only
      cases hok : shapeOk s.1 s.2
      · refine (begin_gone_bad W _ ws g o cap hw hg a x hx ha fun W' hB => gone_bad W' shs bt bs t v s hl (hsB W' hB) (hbB W' hB) hxs hok).mono ?_
        rintro e W' ⟨rfl, hB⟩
        exact ⟨grown_of hB _, by simp⟩
      · refine (begin_gone_ok W _ ws g o cap hw hg a x hx ha bt _ s.1 s.2 (heap_lt hb) fun W' hB => gone_ok W' shs bt bs t v s hl (hsB W' hB) (hbB W' hB) hxs hok hbs (hgb (fun e => by rw [e] at hxs; simp at hxs))).mono ?_
        rintro e W' ⟨rfl, hG, hO⟩
        have hlt := (List.getElem?_eq_some_iff.1 hxs).1
        refine ⟨hG, ?_⟩
        simp only [if_true]
        exact ⟨trivial, hO, hs.grown hG hbs' hgb', by omega⟩
  · refine (begin_old_new W _ _ ws g o cap hw hg a x hx ha).mono ?_
    rintro e W' ⟨rfl, hB⟩
    refine ⟨grown_of hB _, ?_⟩
    unfold objR begE
    rw [if_neg (fun hc => ha hc.2)]
    by_cases hu : (unpk x).2.2 = 0
    · simp only [hu, if_true]
      exact ⟨trivial, hbB W' hB, hsB W' hB, ht⟩
    · simp only [hu, if_false]
end Vm
