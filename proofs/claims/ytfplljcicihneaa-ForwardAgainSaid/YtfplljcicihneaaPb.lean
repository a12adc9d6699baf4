/-
  What Forward does to the pointer to an object of a right heap, once and again.
-/
import Derived.Test.YtfplljcicihneaaPa
namespace Vm
open Go Go.Proofs
set_option linter.unusedSimpArgs false
set_option linter.unusedVariables false
set_option maxRecDepth 100000
theorem fwd_null {g : Hp} (hr : rightL (layH g) = true) : fwd g 0 = (0, g, 0) := by simp [fwd, hr]
theorem refR_ne {l : Ly} (hr : rightL l = true) {k a : Int} (ha : 0 ≤ a) : ¬ refR l k a = 0 := by
  have := fstL_range hr k
  unfold refR; omega
theorem fwd_here {g : Hp} (hr : rightL (layH g) = true) {k a : Int} (hk : 1 ≤ k ∧ k ≤ 2) (ha : 0 ≤ a ∧ a < (partH g k).length) : fwd g (refR (layH g) k a) = (refR (layH g) k a, g, 0) := by
  have h1 := refR_ne hr (k := k) ha.1
  have h2 := adr_ref hr (k := k) ha.1
  have h3 := find_in hr (k := k) (a := a) (by omega) (by rw [sizL_layH (by omega)]; exact ha)
  unfold fwd
  simp [hr, h1, h2, h3, show k < 3 by omega]
theorem fwd_gone {g : Hp} (hr : rightL (layH g) = true) {k : Int} {a : Nat} (hk : 3 ≤ k ∧ k ≤ 4) {u : Int} (hu : (partH g k)[a]? = some u) (h0 : (adr u).2 = 0) : fwd g (refR (layH g) k a) = (u, g, 0) := by
  have hl : a < (partH g k).length := (List.getElem?_eq_some_iff.1 hu).1
  have h1 := refR_ne hr (k := k) (a := (a : Int)) (by omega)
  have h2 := adr_ref hr (k := k) (a := (a : Int)) (by omega)
  have h3 := find_in hr (k := k) (a := (a : Int)) (by omega) (by rw [sizL_layH (by omega)]; omega)
  have h4 : (partH g k).getD a 0 = u := by simp [List.getD, hu]
  unfold fwd
  simp [-List.getD_eq_getElem?_getD, hr, h1, h2, h3, show ¬ k < 3 by omega, h4, h0]
/-- the heap behind the copying of n words from a on -/
def movH (g : Hp) (k : Int) (a n : Nat) : Hp := withH (movedH g k a n) k ((zr (partH g k) a n).set a (refR (layH g) 1 g.low.length))
theorem moved_lay {g : Hp} {k : Int} {a n : Nat} (hl : a + n ≤ (partH g k).length) : layH (movedH g k a n) = { layH g with low := (g.low.length + n : Nat) } := by
  unfold layH movedH
  simp only [Ly.mk.injEq, true_and, and_true]
  simp
  omega
theorem moved_right {g : Hp} (hr : rightL (layH g) = true) {k : Int} {a n : Nat} (hl : a + n ≤ (partH g k).length) (hm : (n : Int) ≤ roomL (layH g)) : rightL (layH (movedH g k a n)) = true := by
  rw [moved_lay hl]
  have h := rightL_iff.1 hr
  have e : roomL (layH g) = (layH g).cap - (layH g).low - (layH g).high := by unfold roomL; rw [hr]; rfl
  have e1 : (layH g).low = g.low.length := rfl
  apply rightL_iff.2
  simp only
  omega
theorem fstL_low (l : Ly) (n : Int) (k : Int) : fstL { l with low := n } k = fstL l k := rfl
theorem movH_lay {g : Hp} {k : Int} (hk : 3 ≤ k ∧ k ≤ 4) {a n : Nat} (hl : a + n ≤ (partH g k).length) : layH (movH g k a n) = { layH g with low := (g.low.length + n : Nat) } := by
  rw [← moved_lay hl]
  unfold movH
  apply withH_lay
  rw [List.length_set, zr_len]
  have : k = 3 ∨ k = 4 := by omega
  rcases this with rfl | rfl <;> rfl
theorem movH_right {g : Hp} (hr : rightL (layH g) = true) {k : Int} (hk : 3 ≤ k ∧ k ≤ 4) {a n : Nat} (hl : a + n ≤ (partH g k).length) (hm : (n : Int) ≤ roomL (layH g)) : rightL (layH (movH g k a n)) = true := by
  rw [movH_lay hk hl, ← moved_lay hl]
  exact moved_right hr hl hm
theorem refR_movH {g : Hp} {k : Int} (hk : 3 ≤ k ∧ k ≤ 4) {a n : Nat} (hl : a + n ≤ (partH g k).length) (j b : Int) : refR (layH (movH g k a n)) j b = refR (layH g) j b := by
  rw [movH_lay hk hl]
  rfl
theorem fwd_wait {g : Hp} (hr : rightL (layH g) = true) {k : Int} {a : Nat} (hk : 3 ≤ k ∧ k ≤ 4) {u : Int} (hu : (partH g k)[a]? = some u) (h0 : ¬ (adr u).2 = 0) {n : Nat} {pt : Int} (hun : unpk u = ((n : Int), pt, 0))
    (hl : a + (n + 1) ≤ (partH g k).length) (hm : ((n + 1 : Nat) : Int) ≤ roomL (layH g)) : fwd g (refR (layH g) k a) = (refR (layH g) 1 g.low.length, movH g k a (n + 1), 0) := by
  have h1 := refR_ne hr (k := k) (a := (a : Int)) (by omega)
  have h2 := adr_ref hr (k := k) (a := (a : Int)) (by omega)
  have h3 := find_in hr (k := k) (a := (a : Int)) (by omega) (by rw [sizL_layH (by omega)]; omega)
  have h4 : (partH g k).getD a 0 = u := by simp [List.getD, hu]
  have hmr := moved_right hr hl hm
  have h5 : addrL (layH (movedH g k a (n + 1))) 1 g.low.length = (fstL (layH g) 1 + g.low.length, 0) := by
    have := addr_in hmr (k := 1) (a := (g.low.length : Int)) (by omega) (by rw [moved_lay hl]; simp only [sizL, if_true]; omega)
    rw [this, moved_lay hl]
    rfl
  have hrng := fstL_range hmr 1
  rw [moved_lay hl] at hrng
  simp only [sizL, if_true] at hrng
  have hf1 : fstL { layH g with low := (g.low.length + (n + 1) : Nat) } 1 = fstL (layH g) 1 := rfl
  rw [hf1] at hrng
  have h6 : ptrTo (fstL (layH g) 1 + g.low.length) = (refR (layH g) 1 g.low.length, 0) := by
    unfold ptrTo refR
    rw [if_neg (by omega)]
  unfold fwd
  have hk3 : ¬ k < 3 := by omega
  simp only [hr, h1, h2, h3, if_neg hk3, Bool.true_eq_false, if_false, ne_eq, not_true_eq_false, Int.toNat_natCast, h4, h0, hun]
  unfold fwdC
  rw [if_neg (by omega), if_neg (by omega)]
  simp only [h5, h6]
  rfl
theorem zr_at {ws : List Int} {a : Nat} : ∀ (n j : Nat), j < a ∨ a + n ≤ j → (zr ws a n)[j]? = ws[j]?
  | 0, _, _ => rfl
  | n + 1, j, h => by
    unfold zr
    rw [List.getElem?_set_ne (by omega)]
    exact zr_at n j (by omega)
/-- words that are not in what was copied are as they were -/
theorem movH_word {g : Hp} {k : Int} (hk : 3 ≤ k ∧ k ≤ 4) {a n : Nat} (hn : 0 < n) {j : Int} (hj : 3 ≤ j ∧ j ≤ 4) {b : Nat} (hb : j ≠ k ∨ b < a ∨ a + n ≤ b) : (partH (movH g k a n) j)[b]? = (partH g j)[b]? := by
  have hk' : k = 3 ∨ k = 4 := by omega
  have hj' : j = 3 ∨ j = 4 := by omega
  rcases hk' with rfl | rfl <;> rcases hj' with rfl | rfl <;> simp only [movH, movedH, withH3, withH4, partH3, partH4]
  · rw [List.getElem?_set_ne (by omega)]; exact zr_at _ _ (by omega)
  · rw [List.getElem?_set_ne (by omega)]; exact zr_at _ _ (by omega)
theorem movH_len {g : Hp} {k : Int} (hk : 3 ≤ k ∧ k ≤ 4) {a n : Nat} {j : Int} (hj : 3 ≤ j ∧ j ≤ 4) : (partH (movH g k a n) j).length = (partH g j).length := by
  have hk' : k = 3 ∨ k = 4 := by omega
  have hj' : j = 3 ∨ j = 4 := by omega
  rcases hk' with rfl | rfl <;> rcases hj' with rfl | rfl <;> simp [movH, movedH]
theorem movH_new {g : Hp} {k : Int} (hk : 3 ≤ k ∧ k ≤ 4) {a n : Nat} (hl : a + n ≤ (partH g k).length) (hn : 0 < n) : (partH (movH g k a n) k)[a]? = some (refR (layH g) 1 g.low.length) := by
  have hk' : k = 3 ∨ k = 4 := by omega
  rcases hk' with rfl | rfl <;> simp only [partH3, partH4] at hl <;> simp only [movH, movedH, withH3, withH4, partH3, partH4] <;> exact List.getElem?_set_self (by rw [zr_len]; omega)
theorem movH_low {g : Hp} {k : Int} (hk : 3 ≤ k ∧ k ≤ 4) {a n : Nat} (hl : a + n ≤ (partH g k).length) : (movH g k a n).low.length = g.low.length + n ∧ (movH g k a n).high = g.high := by
  have hk' : k = 3 ∨ k = 4 := by omega
  rcases hk' with rfl | rfl <;> simp only [partH3, partH4] at hl <;> simp [movH, movedH] <;> omega
theorem movH_room {g : Hp} (hr : rightL (layH g) = true) {k : Int} (hk : 3 ≤ k ∧ k ≤ 4) {a n : Nat} (hl : a + n ≤ (partH g k).length) (hm : (n : Int) ≤ roomL (layH g)) : roomL (layH (movH g k a n)) = roomL (layH g) - n := by
  have h1 := movH_right hr hk hl hm
  have h2 := movH_lay hk hl
  unfold roomL
  rw [if_pos h1, if_pos hr, h2]
  have : (layH g).low = g.low.length := rfl
  simp only
  omega
/-- how a word stands to a heap: nothing; an object of the space in use; one that is gone; one that waits, of n + 1 words -/
inductive Kd (g : Hp) : Int → Prop where
  | null : Kd g 0
  | here (k : Int) (a : Nat) : 1 ≤ k ∧ k ≤ 2 → a < (partH g k).length → Kd g (refR (layH g) k a)
  | gone (k : Int) (a b : Nat) : 3 ≤ k ∧ k ≤ 4 → (partH g k)[a]? = some (refR (layH g) 1 b) → b < g.low.length → Kd g (refR (layH g) k a)
  | wait (k : Int) (a n : Nat) (u pt : Int) : 3 ≤ k ∧ k ≤ 4 → (partH g k)[a]? = some u → ¬ (adr u).2 = 0 → unpk u = ((n : Int), pt, 0) → a + (n + 1) ≤ (partH g k).length → ((n + 1 : Nat) : Int) ≤ roomL (layH g) → Kd g (refR (layH g) k a)
theorem adr_ref0 {l : Ly} (hr : rightL l = true) {k a : Int} (ha : 0 ≤ a) : (adr (refR l k a)).2 = 0 := by rw [adr_ref hr ha]
theorem Kd.again {g : Hp} (hr : rightL (layH g) = true) {w : Int} (h : Kd g w) : (fwd g w).2.2 = 0 ∧ rightL (layH (fwd g w).2.1) = true ∧ fwd (fwd g w).2.1 w = ((fwd g w).1, (fwd g w).2.1, 0) ∧ fwd (fwd g w).2.1 (fwd g w).1 = ((fwd g w).1, (fwd g w).2.1, 0) := by
  cases h with
  | null => simp [fwd_null hr, hr]
  | here k a hk ha => simp [fwd_here hr hk (a := (a : Int)) ⟨by omega, by omega⟩, hr]
  | gone k a b hk ha hb =>
    have h1 := fwd_gone hr hk ha (adr_ref0 hr (by omega))
    have h2 := fwd_here hr (k := 1) (a := (b : Int)) (by omega) ⟨by omega, by simpa using hb⟩
    simp [h1, h2, hr]
  | wait k a n u pt hk hu h0 hun hl hm =>
    have h1 := fwd_wait hr hk hu h0 hun hl hm
    have hr' := movH_right hr hk hl hm
    have hlow := movH_low hk hl
    have e1 := refR_movH hk hl
    have h2 := fwd_gone hr' hk (movH_new hk hl (by omega)) (adr_ref0 hr (by omega))
    have h3 := fwd_here hr' (k := 1) (a := (g.low.length : Int)) (by omega) ⟨by omega, by simp only [partH1]; omega⟩
    rw [e1] at h2 h3
    simp [h1, h2, h3, hr']
/-- words that do not meet the words of an object that waits -/
structure Aside (g : Hp) (k : Int) (a n : Nat) (v : Int) : Prop where
  pos : ∀ (j : Int) (b : Nat), 3 ≤ j ∧ j ≤ 4 → v = refR (layH g) j b → b < (partH g j).length → j ≠ k ∨ b < a ∨ a + n ≤ b
  room : ∀ (j : Int) (b m : Nat) (u pt : Int), 3 ≤ j ∧ j ≤ 4 → v = refR (layH g) j b → (partH g j)[b]? = some u → ¬ (adr u).2 = 0 → unpk u = ((m : Int), pt, 0) → ((m + 1 : Nat) : Int) + n ≤ roomL (layH g)
theorem Kd.behind {g : Hp} (hr : rightL (layH g) = true) {v : Int} (h : Kd g v) {k : Int} (hk : 3 ≤ k ∧ k ≤ 4) {a n : Nat} (hl : a + n ≤ (partH g k).length) (hn : 0 < n) (hm : (n : Int) ≤ roomL (layH g)) (ha : Aside g k a n v) : Kd (movH g k a n) v := by
  have e1 := refR_movH hk hl
  have hlow := movH_low hk hl
  cases h with
  | null => exact .null
  | here j b hj hb =>
    rw [← e1]
    refine .here j b hj ?_
    have : j = 1 ∨ j = 2 := by omega
    rcases this with rfl | rfl
    · simp only [partH1] at hb ⊢; omega
    · simp only [partH2] at hb ⊢; rw [hlow.2]; exact hb
  | gone j b c hj hb hc =>
    have h1 := ha.pos j b hj rfl (List.getElem?_eq_some_iff.1 hb).1
    rw [← e1] at hb ⊢
    exact .gone j b c hj (by rw [movH_word hk hn hj h1]; exact hb) (by omega)
  | wait j b m u pt hj hu h0 hun hlb hmb =>
    have h1 := ha.pos j b hj rfl (List.getElem?_eq_some_iff.1 hu).1
    have h2 := ha.room j b m u pt hj rfl hu h0 hun
    have h3 := movH_room hr hk hl hm
    rw [← e1]
    refine .wait j b m u pt hj (by rw [movH_word hk hn hj h1]; exact hu) h0 hun (by rw [movH_len hk hj]; exact hlb) (by rw [h3]; omega)
end Vm
