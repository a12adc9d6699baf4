/-
  Theory of right heaps: how objects tile a part, where a pointer is found, what Forward does to an object.
-/
import Derived.Test.YtfplljcicihneaaCi
namespace Vm
open Go Go.Proofs
set_option linter.unusedSimpArgs false
set_option linter.unusedVariables false
set_option maxRecDepth 100000
/-- the object o stands at its place among the words -/
structure Stands (ws : List Int) (old : Bool) (o : Ob) : Prop where
  nat : 0 ≤ o.at_
  shape : shapeOk o.size o.ptrs = true
  fits : o.at_ + 1 + o.size ≤ ws.length
  slots : slotsOk ((ws.drop (o.at_.toNat + 1)).take o.size.toNat) o.gone o.ptrs 0 = true
  word : ∃ w, ws[o.at_.toNat]? = some w ∧ (if o.gone then old = true ∧ (adr w).2 = 0 ∧ o.target = (adr w).1 else (old = true → ¬ (adr w).2 = 0) ∧ unpk w = (o.size, o.ptrs, 0) ∧ o.target = 0)
/-- objects, one behind the other, from a place to the words' end -/
def Tiles (ws : List Int) (old : Bool) : Nat → List Ob → Prop
  | a, [] => ws.length ≤ a
  | a, o :: l => o.at_ = a ∧ Stands ws old o ∧ Tiles ws old (a + 1 + o.size.toNat) l
theorem objR_stands {ws : List Int} {shs : List (Int × Int)} {old : Bool} {a tk t : Nat} {w : Int} {o : Ob} (hw : ws[a]? = some w) (ho : objR shs old a tk w = some (o, t)) (hl : ¬ (ws.length : Int) < a + 1 + o.size)
    (hs : ¬ slotsOk ((ws.drop (a + 1)).take o.size.toNat) o.gone o.ptrs 0 = false) : o.at_ = a ∧ Stands ws old o := by
  have h2 := objR_shape ho
  refine ⟨h2.2, ?_, h2.1, ?_, ?_, w, ?_, ?_⟩
  · rw [h2.2]; omega
  · rw [h2.2]; omega
  · rw [h2.2]; simpa using hs
  · rw [h2.2]; simpa using hw
  · unfold objR at ho
    split at ho
    · rename_i hc
      split at ho
      · cases ho
      · split at ho
        · cases ho; simpa using hc
        · cases ho
    · rename_i hc
      split at ho
      · rename_i hu
        cases ho
        simp only [Bool.false_eq_true, if_false]
        refine ⟨fun h1 h3 => hc ⟨h1, h3⟩, ?_, trivial⟩
        rw [← hu]
      · cases ho
theorem walkR_tiles {ws : List Int} {shs : List (Int × Int)} {old : Bool} : ∀ (f a tk : Nat) (acc l : List Ob), walkR ws shs old f a tk acc = (l, 0) → ∃ r, l = acc ++ r ∧ Tiles ws old a r
  | 0, _, _, _, _, h => by simp [walkR] at h
  | f + 1, a, tk, acc, l, h => by
    unfold walkR at h
    split at h
    · rename_i hn
      split at h
      · simp at h
      · simp only [Prod.mk.injEq, and_true] at h
        subst h
        exact ⟨[], by simp, List.getElem?_eq_none_iff.1 hn⟩
    · rename_i w hw
      split at h
      · simp at h
      · rename_i o t ho
        split at h
        · simp at h
        rename_i h1
        split at h
        · simp at h
        rename_i h2
        obtain ⟨r, rfl, hr⟩ := walkR_tiles f _ _ _ _ h
        have hs := objR_stands hw ho h1 h2
        exact ⟨o :: r, by simp, hs.1, hs.2, hr⟩
theorem walkW_tiles {ws : List Int} {shs : List (Int × Int)} {old : Bool} {l : List Ob} (h : walkW ws shs old = (l, 0)) : Tiles ws old 0 l := by
  obtain ⟨r, h1, h2⟩ := walkR_tiles _ _ _ _ _ h
  simp at h1
  subst h1
  exact h2
theorem Tiles.stands {ws : List Int} {old : Bool} : ∀ {a : Nat} {l : List Ob}, Tiles ws old a l → ∀ o ∈ l, Stands ws old o ∧ (a : Int) ≤ o.at_
  | _, [], _, _, h => by simp at h
  | a, o :: l, h, x, hx => by
    have hs := shapeOk_iff.1 h.2.1.shape
    rcases List.mem_cons.1 hx with rfl | hx
    · exact ⟨h.2.1, by rw [h.1]; omega⟩
    · have := Tiles.stands h.2.2 x hx
      exact ⟨this.1, by have := this.2; omega⟩
/-- two objects do not meet -/
theorem Tiles.apart {ws : List Int} {old : Bool} : ∀ {a : Nat} {l : List Ob}, Tiles ws old a l → ∀ o ∈ l, ∀ q ∈ l, o = q ∨ o.at_ + 1 + o.size ≤ q.at_ ∨ q.at_ + 1 + q.size ≤ o.at_
  | _, [], _, _, h, _, _ => by simp at h
  | a, x :: l, h, o, ho, q, hq => by
    have hs := shapeOk_iff.1 h.2.1.shape
    have e := h.1
    rcases List.mem_cons.1 ho with rfl | ho
    · rcases List.mem_cons.1 hq with rfl | hq
      · exact .inl rfl
      · have := (Tiles.stands h.2.2 q hq).2
        exact .inr (.inl (by omega))
    · rcases List.mem_cons.1 hq with hq | hq
      · have := (Tiles.stands h.2.2 o ho).2
        rw [hq]
        exact .inr (.inr (by omega))
      · exact Tiles.apart h.2.2 o ho q hq
/-- the right heap's objects -/
structure RightH (h : Hp) (p : Pts) : Prop where
  parts : partsR h = some p
  num : numR h = true
  ok : rightP h p = true
  low : Tiles h.low false 0 p.low
  high : Tiles h.high false 0 p.high
  old : Tiles h.old true 0 p.old
  far : Tiles h.far true 0 p.far
theorem rightH_of {h : Hp} (hr : rightR h = true) : ∃ p, RightH h p := by
  obtain ⟨p, h1, h2, h3⟩ := right_parts hr
  refine ⟨p, h1, h3, h2, ?_, ?_, ?_, ?_⟩
  all_goals
   clear h3
   unfold partsR at h1
   dsimp only at h1
   split at h1
   · cases h1
   rename_i c1
   split at h1
   · cases h1
   rename_i c2
   cases h1
   have c3 : (walkW h.low [] false).2 = 0 ∧ (walkW h.high [] false).2 = 0 := by
     refine ⟨Decidable.byContradiction fun hc => c1 (.inl hc), Decidable.byContradiction fun hc => c1 (.inr hc)⟩
   have c4 : ∀ x : Int, ¬ x ≠ 0 → x = 0 := fun x hx => Decidable.byContradiction hx
   have e3 := c4 _ (fun hx => c2 (.inr (.inr (.inl hx))))
   have e4 := c4 _ (fun hx => c2 (.inr (.inr (.inr hx))))
   first | exact walkW_tiles (Prod.ext rfl c3.1) | exact walkW_tiles (Prod.ext rfl c3.2) | exact walkW_tiles (Prod.ext rfl e3) | exact walkW_tiles (Prod.ext rfl e4)
theorem RightH.tiles {h : Hp} {p : Pts} (r : RightH h p) {k : Int} (hk : 1 ≤ k ∧ k ≤ 4) : Tiles (partH h k) (decide (2 < k)) 0 (p.at k) := by
  have : k = 1 ∨ k = 2 ∨ k = 3 ∨ k = 4 := by omega
  rcases this with rfl | rfl | rfl | rfl
  · exact r.low
  · exact r.high
  · exact r.old
  · exact r.far
theorem RightH.lay {h : Hp} {p : Pts} (r : RightH h p) : rightL (layH h) = true := by
  have := r.num
  unfold numR at this
  simp only [Bool.and_eq_true] at this
  exact this.1.1.1.1
theorem RightH.room {h : Hp} {p : Pts} (r : RightH h p) : (h.low.length : Int) + h.high.length + waitR p ≤ h.cap := by
  have := r.ok
  unfold rightP at this
  simp only [Bool.and_eq_true, decide_eq_true_eq] at this
  exact this.2
/-- the pointer to a word of a part -/
def refR (l : Ly) (k a : Int) : Int := 2 * (fstL l k + a) + 1
theorem adr_ref {l : Ly} (hr : rightL l = true) {k a : Int} (ha : 0 ≤ a) : adr (refR l k a) = (fstL l k + a, 0) := by
  have := fstL_range hr k
  unfold adr refR
  rw [if_neg (by omega), if_neg (by omega)]
  simp only [Prod.mk.injEq, and_true]
  omega
theorem addr_in {l : Ly} (hr : rightL l = true) {k a : Int} (hk : 1 ≤ k ∧ k ≤ 4) (ha : 0 ≤ a ∧ a < sizL l k) : addrL l k a = (fstL l k + a, 0) := by
  unfold addrL
  rw [if_neg (by simp [hr]), if_neg (by omega), if_neg (by omega)]
/-- each part is found where it is, and nowhere else -/
theorem find_in {l : Ly} (hr : rightL l = true) {k a : Int} (hk : 1 ≤ k ∧ k ≤ 4) (ha : 0 ≤ a ∧ a < sizL l k) : findL l (fstL l k + a) = (k, a, 0) := by
  have h := rightL_iff.1 hr
  have ht := toCap hr
  unfold findL inL
  rw [if_neg (by simp [hr])]
  simp only [Bool.and_eq_true, decide_eq_true_eq]
  have hk4 : k = 1 ∨ k = 2 ∨ k = 3 ∨ k = 4 := by omega
  rcases hk4 with rfl | rfl | rfl | rfl
  · rw [if_pos (by omega)]; simp; omega
  · simp only [fstL, sizL] at ha ⊢
    simp only [show ¬ (2 : Int) = 1 by omega, if_false, if_true] at ha ⊢
    rw [if_neg (by omega), if_pos (by omega)]; simp; omega
  · simp only [fstL, sizL] at ha ⊢
    simp only [show ¬ (3 : Int) = 1 by omega, show ¬ (3 : Int) = 2 by omega, show ¬ (2 : Int) = 1 by omega, if_false, if_true] at ha ⊢
    rw [if_neg (by omega), if_neg (by omega), if_pos (by omega)]; simp; omega
  · simp only [fstL, sizL] at ha ⊢
    simp only [show ¬ (4 : Int) = 1 by omega, show ¬ (4 : Int) = 2 by omega, show ¬ (4 : Int) = 3 by omega, show ¬ (3 : Int) = 1 by omega, show ¬ (3 : Int) = 2 by omega, show ¬ (2 : Int) = 1 by omega, if_false, if_true] at ha ⊢
    rw [if_neg (by omega), if_neg (by omega), if_neg (by omega), if_pos (by omega)]; simp; omega
end Vm
/-
  What Forward does to the pointer to an object of a right heap, once and again.
-/
namespace Vm
open Go Go.Proofs
set_option linter.unusedSimpArgs false
set_option linter.unusedVariables false
set_option maxRecDepth 100000
theorem fwd_null {g : Hp} (hr : rightL (layH g) = true) : fwd g 0 = (0, g, 0) := by simp [fwd, hr]
theorem refR_ne {l : Ly} (hr : rightL l = true) {k a : Int} (ha : 0 ≤ a) : ¬ refR l k a = 0 := by
  have := fstL_range hr k
  unfold refR; omega
theorem fwd_here {g : Hp} (hr : rightL (layH g) = true) {k a : Int} (hk : 1 ≤ k ∧ k ≤ 2) (ha : 0 ≤ a ∧ a < (partH g k).length) : fwd g (refR (layH g) k a) = (refR (layH g) k a, g, 0) := by
  have h1 := refR_ne hr (k := k) ha.1
  have h2 := adr_ref hr (k := k) ha.1
  have h3 := find_in hr (k := k) (a := a) (by omega) (by rw [sizL_layH (by omega)]; exact ha)
  unfold fwd
  simp [hr, h1, h2, h3, show k < 3 by omega]
theorem fwd_gone {g : Hp} (hr : rightL (layH g) = true) {k : Int} {a : Nat} (hk : 3 ≤ k ∧ k ≤ 4) {u : Int} (hu : (partH g k)[a]? = some u) (h0 : (adr u).2 = 0) : fwd g (refR (layH g) k a) = (u, g, 0) := by
  have hl : a < (partH g k).length := (List.getElem?_eq_some_iff.1 hu).1
  have h1 := refR_ne hr (k := k) (a := (a : Int)) (by omega)
  have h2 := adr_ref hr (k := k) (a := (a : Int)) (by omega)
  have h3 := find_in hr (k := k) (a := (a : Int)) (by omega) (by rw [sizL_layH (by omega)]; omega)
  have h4 : (partH g k).getD a 0 = u := by simp [List.getD, hu]
  unfold fwd
  simp [-List.getD_eq_getElem?_getD, hr, h1, h2, h3, show ¬ k < 3 by omega, h4, h0]
/-- the heap behind the copying of n words from a on -/
def movH (g : Hp) (k : Int) (a n : Nat) : Hp := withH (movedH g k a n) k ((zr (partH g k) a n).set a (refR (layH g) 1 g.low.length))
theorem moved_lay {g : Hp} {k : Int} {a n : Nat} (hl : a + n ≤ (partH g k).length) : layH (movedH g k a n) = { layH g with low := (g.low.length + n : Nat) } := by
  unfold layH movedH
  simp only [Ly.mk.injEq, true_and, and_true]
  simp
  omega
theorem moved_right {g : Hp} (hr : rightL (layH g) = true) {k : Int} {a n : Nat} (hl : a + n ≤ (partH g k).length) (hm : (n : Int) ≤ roomL (layH g)) : rightL (layH (movedH g k a n)) = true := by
  rw [moved_lay hl]
  have h := rightL_iff.1 hr
  have e : roomL (layH g) = (layH g).cap - (layH g).low - (layH g).high := by unfold roomL; rw [hr]; rfl
  have e1 : (layH g).low = g.low.length := rfl
  apply rightL_iff.2
  simp only
  omega
theorem fstL_low (l : Ly) (n : Int) (k : Int) : fstL { l with low := n } k = fstL l k := rfl
theorem movH_lay {g : Hp} {k : Int} (hk : 3 ≤ k ∧ k ≤ 4) {a n : Nat} (hl : a + n ≤ (partH g k).length) : layH (movH g k a n) = { layH g with low := (g.low.length + n : Nat) } := by
  rw [← moved_lay hl]
  unfold movH
  apply withH_lay
  rw [List.length_set, zr_len]
  have : k = 3 ∨ k = 4 := by omega
  rcases this with rfl | rfl <;> rfl
theorem movH_right {g : Hp} (hr : rightL (layH g) = true) {k : Int} (hk : 3 ≤ k ∧ k ≤ 4) {a n : Nat} (hl : a + n ≤ (partH g k).length) (hm : (n : Int) ≤ roomL (layH g)) : rightL (layH (movH g k a n)) = true := by
  rw [movH_lay hk hl, ← moved_lay hl]
  exact moved_right hr hl hm
theorem refR_movH {g : Hp} {k : Int} (hk : 3 ≤ k ∧ k ≤ 4) {a n : Nat} (hl : a + n ≤ (partH g k).length) (j b : Int) : refR (layH (movH g k a n)) j b = refR (layH g) j b := by
  rw [movH_lay hk hl]
  rfl
theorem fwd_wait {g : Hp} (hr : rightL (layH g) = true) {k : Int} {a : Nat} (hk : 3 ≤ k ∧ k ≤ 4) {u : Int} (hu : (partH g k)[a]? = some u) (h0 : ¬ (adr u).2 = 0) {n : Nat} {pt : Int} (hun : unpk u = ((n : Int), pt, 0))
    (hl : a + (n + 1) ≤ (partH g k).length) (hm : ((n + 1 : Nat) : Int) ≤ roomL (layH g)) : fwd g (refR (layH g) k a) = (refR (layH g) 1 g.low.length, movH g k a (n + 1), 0) := by
  have h1 := refR_ne hr (k := k) (a := (a : Int)) (by omega)
  have h2 := adr_ref hr (k := k) (a := (a : Int)) (by omega)
  have h3 := find_in hr (k := k) (a := (a : Int)) (by omega) (by rw [sizL_layH (by omega)]; omega)
  have h4 : (partH g k).getD a 0 = u := by simp [List.getD, hu]
  have hmr := moved_right hr hl hm
  have h5 : addrL (layH (movedH g k a (n + 1))) 1 g.low.length = (fstL (layH g) 1 + g.low.length, 0) := by
    have := addr_in hmr (k := 1) (a := (g.low.length : Int)) (by omega) (by rw [moved_lay hl]; simp only [sizL, if_true]; omega)
    rw [this, moved_lay hl]
    rfl
  have hrng := fstL_range hmr 1
  rw [moved_lay hl] at hrng
  simp only [sizL, if_true] at hrng
  have hf1 : fstL { layH g with low := (g.low.length + (n + 1) : Nat) } 1 = fstL (layH g) 1 := rfl
  rw [hf1] at hrng
  have h6 : ptrTo (fstL (layH g) 1 + g.low.length) = (refR (layH g) 1 g.low.length, 0) := by
    unfold ptrTo refR
    rw [if_neg (by omega)]
  unfold fwd
  have hk3 : ¬ k < 3 := by omega
  simp only [hr, h1, h2, h3, if_neg hk3, Bool.true_eq_false, if_false, ne_eq, not_true_eq_false, Int.toNat_natCast, h4, h0, hun]
  unfold fwdC
  rw [if_neg (by omega), if_neg (by omega)]
  simp only [h5, h6]
  rfl
theorem zr_at {ws : List Int} {a : Nat} : ∀ (n j : Nat), j < a ∨ a + n ≤ j → (zr ws a n)[j]? = ws[j]?
  | 0, _, _ => rfl
  | n + 1, j, h => by
    unfold zr
    rw [List.getElem?_set_ne (by omega)]
    exact zr_at n j (by omega)
/-- words that are not in what was copied are as they were -/
theorem movH_word {g : Hp} {k : Int} (hk : 3 ≤ k ∧ k ≤ 4) {a n : Nat} (hn : 0 < n) {j : Int} (hj : 3 ≤ j ∧ j ≤ 4) {b : Nat} (hb : j ≠ k ∨ b < a ∨ a + n ≤ b) : (partH (movH g k a n) j)[b]? = (partH g j)[b]? := by
  have hk' : k = 3 ∨ k = 4 := by omega
  have hj' : j = 3 ∨ j = 4 := by omega
  rcases hk' with rfl | rfl <;> rcases hj' with rfl | rfl <;> simp only [movH, movedH, withH3, withH4, partH3, partH4]
  · rw [List.getElem?_set_ne (by omega)]; exact zr_at _ _ (by omega)
  · rw [List.getElem?_set_ne (by omega)]; exact zr_at _ _ (by omega)
theorem movH_len {g : Hp} {k : Int} (hk : 3 ≤ k ∧ k ≤ 4) {a n : Nat} {j : Int} (hj : 3 ≤ j ∧ j ≤ 4) : (partH (movH g k a n) j).length = (partH g j).length := by
  have hk' : k = 3 ∨ k = 4 := by omega
  have hj' : j = 3 ∨ j = 4 := by omega
  rcases hk' with rfl | rfl <;> rcases hj' with rfl | rfl <;> simp [movH, movedH]
theorem movH_new {g : Hp} {k : Int} (hk : 3 ≤ k ∧ k ≤ 4) {a n : Nat} (hl : a + n ≤ (partH g k).length) (hn : 0 < n) : (partH (movH g k a n) k)[a]? = some (refR (layH g) 1 g.low.length) := by
  have hk' : k = 3 ∨ k = 4 := by omega
  rcases hk' with rfl | rfl <;> simp only [partH3, partH4] at hl <;> simp only [movH, movedH, withH3, withH4, partH3, partH4] <;> exact List.getElem?_set_self (by rw [zr_len]; omega)
theorem movH_low {g : Hp} {k : Int} (hk : 3 ≤ k ∧ k ≤ 4) {a n : Nat} (hl : a + n ≤ (partH g k).length) : (movH g k a n).low.length = g.low.length + n ∧ (movH g k a n).high = g.high := by
  have hk' : k = 3 ∨ k = 4 := by omega
  rcases hk' with rfl | rfl <;> simp only [partH3, partH4] at hl <;> simp [movH, movedH] <;> omega
theorem movH_room {g : Hp} (hr : rightL (layH g) = true) {k : Int} (hk : 3 ≤ k ∧ k ≤ 4) {a n : Nat} (hl : a + n ≤ (partH g k).length) (hm : (n : Int) ≤ roomL (layH g)) : roomL (layH (movH g k a n)) = roomL (layH g) - n := by
  have h1 := movH_right hr hk hl hm
  have h2 := movH_lay hk hl
  unfold roomL
  rw [if_pos h1, if_pos hr, h2]
  have : (layH g).low = g.low.length := rfl
  simp only
  omega
/-- how a word stands to a heap: nothing; an object of the space in use; one that is gone; one that waits, of n + 1 words -/
inductive Kd (g : Hp) : Int → Prop where
  | null : Kd g 0
  | here (k : Int) (a : Nat) : 1 ≤ k ∧ k ≤ 2 → a < (partH g k).length → Kd g (refR (layH g) k a)
  | gone (k : Int) (a b : Nat) : 3 ≤ k ∧ k ≤ 4 → (partH g k)[a]? = some (refR (layH g) 1 b) → b < g.low.length → Kd g (refR (layH g) k a)
  | wait (k : Int) (a n : Nat) (u pt : Int) : 3 ≤ k ∧ k ≤ 4 → (partH g k)[a]? = some u → ¬ (adr u).2 = 0 → unpk u = ((n : Int), pt, 0) → a + (n + 1) ≤ (partH g k).length → ((n + 1 : Nat) : Int) ≤ roomL (layH g) → Kd g (refR (layH g) k a)
theorem adr_ref0 {l : Ly} (hr : rightL l = true) {k a : Int} (ha : 0 ≤ a) : (adr (refR l k a)).2 = 0 := by rw [adr_ref hr ha]
theorem Kd.again {g : Hp} (hr : rightL (layH g) = true) {w : Int} (h : Kd g w) : (fwd g w).2.2 = 0 ∧ rightL (layH (fwd g w).2.1) = true ∧ fwd (fwd g w).2.1 w = ((fwd g w).1, (fwd g w).2.1, 0) ∧ fwd (fwd g w).2.1 (fwd g w).1 = ((fwd g w).1, (fwd g w).2.1, 0) := by
  cases h with
  | null => simp [fwd_null hr, hr]
  | here k a hk ha => simp [fwd_here hr hk (a := (a : Int)) ⟨by omega, by omega⟩, hr]
  | gone k a b hk ha hb =>
    have h1 := fwd_gone hr hk ha (adr_ref0 hr (by omega))
    have h2 := fwd_here hr (k := 1) (a := (b : Int)) (by omega) ⟨by omega, by simpa using hb⟩
    simp [h1, h2, hr]
  | wait k a n u pt hk hu h0 hun hl hm =>
    have h1 := fwd_wait hr hk hu h0 hun hl hm
    have hr' := movH_right hr hk hl hm
    have hlow := movH_low hk hl
    have e1 := refR_movH hk hl
    have h2 := fwd_gone hr' hk (movH_new hk hl (by omega)) (adr_ref0 hr (by omega))
    have h3 := fwd_here hr' (k := 1) (a := (g.low.length : Int)) (by omega) ⟨by omega, by simp only [partH1]; omega⟩
    rw [e1] at h2 h3
    simp [h1, h2, h3, hr']
/-- words that do not meet the words of an object that waits -/
structure Aside (g : Hp) (k : Int) (a n : Nat) (v : Int) : Prop where
  pos : ∀ (j : Int) (b : Nat), 3 ≤ j ∧ j ≤ 4 → v = refR (layH g) j b → b < (partH g j).length → j ≠ k ∨ b < a ∨ a + n ≤ b
  room : ∀ (j : Int) (b m : Nat) (u pt : Int), 3 ≤ j ∧ j ≤ 4 → v = refR (layH g) j b → (partH g j)[b]? = some u → ¬ (adr u).2 = 0 → unpk u = ((m : Int), pt, 0) → ((m + 1 : Nat) : Int) + n ≤ roomL (layH g)
theorem Kd.behind {g : Hp} (hr : rightL (layH g) = true) {v : Int} (h : Kd g v) {k : Int} (hk : 3 ≤ k ∧ k ≤ 4) {a n : Nat} (hl : a + n ≤ (partH g k).length) (hn : 0 < n) (hm : (n : Int) ≤ roomL (layH g)) (ha : Aside g k a n v) : Kd (movH g k a n) v := by
  have e1 := refR_movH hk hl
  have hlow := movH_low hk hl
  cases h with
  | null => exact .null
  | here j b hj hb =>
    rw [← e1]
    refine .here j b hj ?_
    have : j = 1 ∨ j = 2 := by omega
    rcases this with rfl | rfl
    · simp only [partH1] at hb ⊢; omega
    · simp only [partH2] at hb ⊢; rw [hlow.2]; exact hb
  | gone j b c hj hb hc =>
    have h1 := ha.pos j b hj rfl (List.getElem?_eq_some_iff.1 hb).1
    rw [← e1] at hb ⊢
    exact .gone j b c hj (by rw [movH_word hk hn hj h1]; exact hb) (by omega)
  | wait j b m u pt hj hu h0 hun hlb hmb =>
    have h1 := ha.pos j b hj rfl (List.getElem?_eq_some_iff.1 hu).1
    have h2 := ha.room j b m u pt hj rfl hu h0 hun
    have h3 := movH_room hr hk hl hm
    rw [← e1]
    refine .wait j b m u pt hj (by rw [movH_word hk hn hj h1]; exact hu) h0 hun (by rw [movH_len hk hj]; exact hlb) (by rw [h3]; omega)
end Vm
/-
  Pointers to the objects of a right heap, as Forward meets them.
-/
namespace Vm
open Go Go.Proofs
set_option linter.unusedSimpArgs false
set_option linter.unusedVariables false
set_option maxRecDepth 100000
theorem shapesR_pre {h : Hp} {ws : List Int} {low : List Ob} : ∀ (f i : Nat) (acc l : List (Int × Int)), shapesR h ws low f i acc = some l → ∃ r, l = acc ++ r
  | 0, _, _, _, he => by simp [shapesR] at he
  | f + 1, i, acc, l, he => by
    unfold shapesR at he
    split at he
    · cases he; exact ⟨[], by simp⟩
    · split at he
      · split at he
        · cases he
        · obtain ⟨r, hr⟩ := shapesR_pre f _ _ _ he
          exact ⟨_, by rw [hr, List.append_assoc]⟩
      · split at he
        · exact shapesR_pre f _ _ _ he
        · cases he
/-- the objects that are gone are gone to objects of Low -/
theorem shapes_walk {h : Hp} {ws : List Int} {low : List Ob} : ∀ (f i : Nat) (acc shs : List (Int × Int)), shapesR h ws low f i acc = some shs → ∀ (f' : Nat) (acc' l : List Ob), walkR ws shs true f' i acc.length acc' = (l, 0) →
    ∃ r, l = acc' ++ r ∧ ∀ o ∈ r, o.gone = true → ∃ q, atR h 1 low o.target = some q ∧ q.size = o.size ∧ q.ptrs = o.ptrs
  | 0, _, _, _, he => by simp [shapesR] at he
  | f + 1, i, acc, shs, he => by
    intro f' acc' l hw
    cases f' with
    | zero => simp [walkR] at hw
    | succ f' =>
      unfold shapesR at he
      unfold walkR at hw
      cases hwi : ws[i]? with
      | none =>
        simp only [hwi] at hw
        split at hw
        · simp at hw
        · simp only [Prod.mk.injEq, and_true] at hw
          exact ⟨[], by simp [hw], by simp⟩
      | some w =>
        simp only [hwi] at he hw
        by_cases ha : (adr w).2 = 0
        · simp only [ha, if_true] at he
          cases hq : atR h 1 low (adr w).1 with
          | none => simp only [hq] at he; cases he
          | some q =>
            simp only [hq] at he
            obtain ⟨r, hr⟩ := shapesR_pre _ _ _ _ he
            have hs : shs[acc.length]? = some (q.size, q.ptrs) := by rw [hr]; simp
            unfold objR at hw
            rw [if_pos ⟨rfl, ha⟩] at hw
            simp only [hs] at hw
            by_cases hsh : shapeOk q.size q.ptrs = true
            · rw [if_pos hsh] at hw
              simp only at hw
              split at hw
              · simp at hw
              split at hw
              · simp at hw
              have hlen : acc.length + 1 = (acc ++ [(q.size, q.ptrs)]).length := by simp
              rw [hlen] at hw
              obtain ⟨r', h1, h2⟩ := shapes_walk f _ _ _ he _ _ _ hw
              refine ⟨_ :: r', by rw [h1, List.append_assoc]; rfl, ?_⟩
              intro o ho hg
              rcases List.mem_cons.1 ho with rfl | ho
              · exact ⟨q, hq, rfl, rfl⟩
              · exact h2 o ho hg
            · rw [if_neg hsh] at hw
              simp at hw
        · simp only [ha, if_false] at he
          by_cases hu : (unpk w).2.2 = 0
          · simp only [hu, if_true] at he
            unfold objR at hw
            rw [if_neg (fun hc => ha hc.2), if_pos hu] at hw
            simp only at hw
            split at hw
            · simp at hw
            split at hw
            · simp at hw
            obtain ⟨r', h1, h2⟩ := shapes_walk f _ _ _ he _ _ _ hw
            refine ⟨_ :: r', by rw [h1, List.append_assoc]; rfl, ?_⟩
            intro o ho hg
            rcases List.mem_cons.1 ho with rfl | ho
            · simp at hg
            · exact h2 o ho hg
          · simp only [hu, if_false] at he
            cases he
theorem RightH.gone_low {h : Hp} {p : Pts} (r : RightH h p) {k : Int} (hk : 3 ≤ k ∧ k ≤ 4) {o : Ob} (ho : o ∈ p.at k) (hg : o.gone = true) : ∃ q ∈ p.low, startR h 1 q.at_ = o.target ∧ q.size = o.size ∧ q.ptrs = o.ptrs := by
  have h1 := r.parts
  unfold partsR at h1
  dsimp only at h1
  split at h1
  · cases h1
  split at h1
  · cases h1
  rename_i c2
  have aux : ∀ (ws : List Int) (x : Option (List (Int × Int))), x = shapesW h ws (walkW h.low [] false).1 → ¬ x = none → (walkW ws (x.getD []) true).2 = 0 → o ∈ (walkW ws (x.getD []) true).1 →
      ∃ q ∈ (walkW h.low [] false).1, startR h 1 q.at_ = o.target ∧ q.size = o.size ∧ q.ptrs = o.ptrs := by
    intro ws x hx hn h0 ho
    cases x with
    | none => exact (hn rfl).elim
    | some shs =>
      simp only [Option.getD_some] at h0 ho
      obtain ⟨r', e1, e2⟩ := shapes_walk _ _ _ _ hx.symm (ws.length + 1) [] (walkW ws shs true).1 (Prod.ext rfl h0)
      simp only [List.nil_append] at e1
      rw [e1] at ho
      obtain ⟨q, hq, hs⟩ := e2 o ho hg
      have := List.find?_some hq
      exact ⟨q, atR_in hq, by simpa using this, hs⟩
  have e3 : ¬ shapesW h h.old (walkW h.low [] false).1 = none := fun e => c2 (.inl e)
  have e4 : ¬ shapesW h h.far (walkW h.low [] false).1 = none := fun e => c2 (.inr (.inl e))
  have e5 : (walkW h.old ((shapesW h h.old (walkW h.low [] false).1).getD []) true).2 = 0 := Decidable.byContradiction fun e => c2 (.inr (.inr (.inl e)))
  have e6 : (walkW h.far ((shapesW h h.far (walkW h.low [] false).1).getD []) true).2 = 0 := Decidable.byContradiction fun e => c2 (.inr (.inr (.inr e)))
  cases h1
  have : k = 3 ∨ k = 4 := by omega
  rcases this with rfl | rfl
  · exact aux _ _ rfl e3 e5 (by simpa using ho)
  · exact aux _ _ rfl e4 e6 (by simpa using ho)
theorem wtL_mem {l : List Ob} {o : Ob} (h : o ∈ l) : wtO o ≤ wtL l := by
  unfold wtL
  induction l with
  | nil => simp at h
  | cons x l ih =>
    simp only [List.map_cons, List.sum_cons]
    rcases List.mem_cons.1 h with rfl | h
    · omega
    · have := ih h; omega
theorem wtL_two {l : List Ob} {o q : Ob} (h : o ∈ l) (k : q ∈ l) (hn : o ≠ q) : wtO o + wtO q ≤ wtL l := by
  unfold wtL
  induction l with
  | nil => simp at h
  | cons x l ih =>
    simp only [List.map_cons, List.sum_cons]
    rcases List.mem_cons.1 h with rfl | h2
    · rcases List.mem_cons.1 k with rfl | k
      · exact (hn rfl).elim
      · have := wtL_mem k; unfold wtL at this; omega
    · rcases List.mem_cons.1 k with e | k
      · have h3 := wtL_mem (by assumption : o ∈ l)
        unfold wtL at h3
        rw [e]
        omega
      · have := ih (by assumption) k; omega
theorem waitR_mem {p : Pts} {k : Int} (hk : 3 ≤ k ∧ k ≤ 4) {o : Ob} (h : o ∈ p.at k) : wtO o ≤ waitR p := by
  have : k = 3 ∨ k = 4 := by omega
  unfold waitR
  rcases this with rfl | rfl
  · have := wtL_mem (l := p.old) h; omega
  · have := wtL_mem (l := p.far) h; omega
theorem waitR_two {p : Pts} {k j : Int} (hk : 3 ≤ k ∧ k ≤ 4) (hj : 3 ≤ j ∧ j ≤ 4) {o q : Ob} (h : o ∈ p.at k) (h' : q ∈ p.at j) (hn : ¬ (k = j ∧ o = q)) : wtO o + wtO q ≤ waitR p := by
  have e1 : k = 3 ∨ k = 4 := by omega
  have e2 : j = 3 ∨ j = 4 := by omega
  unfold waitR
  rcases e1 with rfl | rfl <;> rcases e2 with rfl | rfl
  · have := wtL_two (l := p.old) h h' (fun e => hn ⟨rfl, e⟩); omega
  · have := wtL_mem (l := p.old) h; have := wtL_mem (l := p.far) h'; omega
  · have := wtL_mem (l := p.far) h; have := wtL_mem (l := p.old) h'; omega
  · have := wtL_two (l := p.far) h h' (fun e => hn ⟨rfl, e⟩); omega
theorem refR_inj {l : Ly} (hr : rightL l = true) {k j a b : Int} (hk : 1 ≤ k ∧ k ≤ 4) (hj : 1 ≤ j ∧ j ≤ 4) (ha : 0 ≤ a ∧ a < sizL l k) (hb : 0 ≤ b ∧ b < sizL l j) (h : refR l k a = refR l j b) : k = j ∧ a = b := by
  have h1 := find_in hr hk ha
  have h2 := find_in hr hj hb
  have : fstL l k + a = fstL l j + b := by unfold refR at h; omega
  rw [this, h2] at h1
  simp only [Prod.mk.injEq, and_true] at h1
  omega
/-- a pointer's word is known by its address -/
theorem word_of {u a : Int} (h0 : (adr u).2 = 0) (h : (adr u).1 = a) : u = 2 * a + 1 := by
  unfold adr at h0 h
  by_cases c1 : u = 0
  · simp [c1] at h0
  rw [if_neg c1] at h0 h
  by_cases c2 : u % 2 = 0 ∨ u = 1
  · rw [if_pos c2] at h0; simp at h0
  rw [if_neg c2] at h
  simp only at h
  omega
theorem adr_unpk {u : Int} (h : (unpk u).2.2 = 0) : ¬ (adr u).2 = 0 := by
  unfold unpk at h
  split at h
  · rename_i hc
    unfold adr
    split
    · simp
    rw [if_pos (.inl hc.1)]; simp
  · simp at h
theorem obj_at {h : Hp} {p : Pts} (r : RightH h p) {k : Int} (hk : 1 ≤ k ∧ k ≤ 4) {o : Ob} (ho : o ∈ p.at k) : ∃ a n : Nat, o.at_ = a ∧ o.size = n ∧ a + (n + 1) ≤ (partH h k).length ∧ n ≤ 255 := by
  have hs := (Tiles.stands (r.tiles hk) o ho).1
  have h1 := shapeOk_iff.1 hs.shape
  obtain ⟨a, ha⟩ := Int.eq_ofNat_of_zero_le hs.nat
  obtain ⟨n, hn⟩ := Int.eq_ofNat_of_zero_le h1.1
  have := hs.fits
  exact ⟨a, n, ha, hn, by omega, by omega⟩
theorem obj_kd {h : Hp} {p : Pts} (r : RightH h p) {k : Int} (hk : 1 ≤ k ∧ k ≤ 4) {o : Ob} (ho : o ∈ p.at k) : Kd h (refR (layH h) k o.at_) := by
  have hs := (Tiles.stands (r.tiles hk) o ho).1
  obtain ⟨a, n, ha, hn, hl, hn5⟩ := obj_at r hk ho
  by_cases h2 : k ≤ 2
  · rw [ha]; exact .here k a ⟨hk.1, h2⟩ (by omega)
  have hk3 : 3 ≤ k ∧ k ≤ 4 := by omega
  obtain ⟨u, hu, hc⟩ := hs.word
  rw [ha, Int.toNat_natCast] at hu
  by_cases hg : o.gone = true
  · rw [if_pos hg] at hc
    obtain ⟨q, hq, hst, _⟩ := r.gone_low hk3 ho hg
    obtain ⟨b, m, hb, hm, hbl, _⟩ := obj_at r (k := 1) (by omega) hq
    have e1 : startR h 1 q.at_ = fstL (layH h) 1 + b := by
      unfold startR
      rw [hb, addr_in r.lay (by omega) (by rw [sizL_layH (by omega)]; omega)]
    have e2 : u = refR (layH h) 1 b := by
      have := word_of hc.2.1 (hc.2.2.symm.trans (hst.symm.trans e1))
      rw [this]; rfl
    rw [ha]
    subst e2
    exact .gone k a b hk3 hu (by simpa using (show b < (partH h 1).length by omega))
  · rw [if_neg hg] at hc
    have hrm := r.room
    have hw := waitR_mem hk3 ho
    unfold wtO at hw
    rw [if_neg hg, hn] at hw
    have e : roomL (layH h) = h.cap - h.low.length - h.high.length := by unfold roomL; rw [if_pos r.lay]; rfl
    rw [ha]
    exact .wait k a n u o.ptrs hk3 hu (hc.1 (by simp; omega)) (by rw [hc.2.1, hn]) hl (by rw [e]; simp at hw; omega)
theorem obj_aside {h : Hp} {p : Pts} (r : RightH h p) {k j : Int} (hk : 3 ≤ k ∧ k ≤ 4) (hj : 1 ≤ j ∧ j ≤ 4) {o q : Ob} (ho : o ∈ p.at k) (hq : q ∈ p.at j) (hn : ¬ (k = j ∧ o = q)) (hg : o.gone = false) {a n : Nat} (ha : o.at_ = a) (hs : o.size = n) :
    Aside h k a (n + 1) (refR (layH h) j q.at_) := by
  obtain ⟨b, m, hb, hm, hbl, _⟩ := obj_at r hj hq
  have key : ∀ (j' : Int) (b' : Nat), 3 ≤ j' ∧ j' ≤ 4 → refR (layH h) j q.at_ = refR (layH h) j' b' → b' < (partH h j').length → j = j' ∧ (b : Int) = b' := by
    intro j' b' hj' he hb'
    rw [hb] at he
    exact refR_inj r.lay hj (by omega) (by rw [sizL_layH hj]; omega) (by rw [sizL_layH (by omega)]; omega) he
  refine ⟨fun j' b' hj' he hb' => ?_, fun j' b' m' u pt hj' he hu h0 hun => ?_⟩
  · obtain ⟨e1, e2⟩ := key j' b' hj' he hb'
    subst e1
    by_cases hjk : j = k
    · subst hjk
      rcases Tiles.apart (r.tiles (by omega)) o ho q hq with e | e | e
      · exact (hn ⟨rfl, e⟩).elim
      · omega
      · omega
    · exact .inl hjk
  · have hb' := (List.getElem?_eq_some_iff.1 hu).1
    obtain ⟨e1, e2⟩ := key j' b' hj' he hb'
    subst e1
    have hsq := (Tiles.stands (r.tiles hj) q hq).1
    obtain ⟨u', hu', hc⟩ := hsq.word
    have e3 : b' = b := by omega
    subst e3
    rw [hb, Int.toNat_natCast, hu] at hu'
    cases hu'
    by_cases hgq : q.gone = true
    · rw [if_pos hgq] at hc
      exact (h0 hc.2.1).elim
    · rw [if_neg hgq, hun] at hc
      have e4 : (m' : Int) = m := by have := hc.2.1; simp only [Prod.mk.injEq] at this; omega
      have hw := waitR_two hk hj' ho hq hn
      unfold wtO at hw
      rw [if_neg (by simp [hg]), if_neg hgq, hs, hm] at hw
      have hrm := r.room
      have e : roomL (layH h) = h.cap - h.low.length - h.high.length := by unfold roomL; rw [if_pos r.lay]; rfl
      rw [e]
      simp at hw
      omega
end Vm
/-
  Two pointers, forwarded in either order.
-/
namespace Vm
open Go Go.Proofs
set_option linter.unusedSimpArgs false
set_option linter.unusedVariables false
set_option maxRecDepth 100000
/-- 0, or the pointer to an object -/
inductive Wd (h : Hp) (p : Pts) : Int → Prop where
  | null : Wd h p 0
  | obj (k : Int) (o : Ob) : 1 ≤ k ∧ k ≤ 4 → o ∈ p.at k → Wd h p (refR (layH h) k o.at_)
theorem Wd.kd {h : Hp} {p : Pts} (r : RightH h p) {w : Int} (hw : Wd h p w) : Kd h w := by
  cases hw with
  | null => exact .null
  | obj k o hk ho => exact obj_kd r hk ho
/-- nothing is copied, and this is told -/
inductive Stat (g : Hp) : Int → Int → Prop where
  | null : Stat g 0 0
  | here (k : Int) (a : Nat) : 1 ≤ k ∧ k ≤ 2 → a < (partH g k).length → Stat g (refR (layH g) k a) (refR (layH g) k a)
  | gone (k : Int) (a b : Nat) : 3 ≤ k ∧ k ≤ 4 → (partH g k)[a]? = some (refR (layH g) 1 b) → b < g.low.length → Stat g (refR (layH g) k a) (refR (layH g) 1 b)
theorem Stat.fwd {g : Hp} (hr : rightL (layH g) = true) {v x : Int} (h : Stat g v x) : fwd g v = (x, g, 0) := by
  cases h with
  | null => exact fwd_null hr
  | here k a hk ha => exact fwd_here hr hk ⟨by omega, by omega⟩
  | gone k a b hk ha hb => exact fwd_gone hr hk ha (adr_ref0 hr (by omega))
theorem Stat.behind {g : Hp} {v x : Int} (h : Stat g v x) {k : Int} (hk : 3 ≤ k ∧ k ≤ 4) {a n : Nat} (hl : a + n ≤ (partH g k).length) (hn : 0 < n) (ha : Aside g k a n v) : Stat (movH g k a n) v x := by
  have e1 := refR_movH hk hl
  have hlow := movH_low hk hl
  cases h with
  | null => exact .null
  | here j b hj hb =>
    rw [← e1]
    refine .here j b hj ?_
    have : j = 1 ∨ j = 2 := by omega
    rcases this with rfl | rfl
    · simp only [partH1] at hb ⊢; omega
    · simp only [partH2] at hb ⊢; rw [hlow.2]; exact hb
  | gone j b c hj hb hc =>
    have h1 := ha.pos j b hj rfl (List.getElem?_eq_some_iff.1 hb).1
    rw [← e1] at hb ⊢
    rw [← e1]
    exact .gone j b c hj (by rw [movH_word hk hn hj h1]; exact hb) (by omega)
/-- an object that waits -/
structure Wt (g : Hp) (k : Int) (a n : Nat) (v : Int) : Prop where
  part : 3 ≤ k ∧ k ≤ 4
  ref : v = refR (layH g) k a
  word : ∃ u pt, (partH g k)[a]? = some u ∧ ¬ (adr u).2 = 0 ∧ unpk u = ((n : Int), pt, 0)
  len : a + (n + 1) ≤ (partH g k).length
  room : ((n + 1 : Nat) : Int) ≤ roomL (layH g)
theorem Wt.fwd {g : Hp} (hr : rightL (layH g) = true) {k : Int} {a n : Nat} {v : Int} (h : Wt g k a n v) : fwd g v = (refR (layH g) 1 g.low.length, movH g k a (n + 1), 0) := by
  obtain ⟨u, pt, hu, h0, hun⟩ := h.word
  rw [h.ref]
  exact fwd_wait hr h.part hu h0 hun h.len h.room
theorem Kd.split {g : Hp} {v : Int} (h : Kd g v) : (∃ x, Stat g v x) ∨ ∃ k a n, Wt g k a n v := by
  cases h with
  | null => exact .inl ⟨_, .null⟩
  | here k a hk ha => exact .inl ⟨_, .here k a hk ha⟩
  | gone k a b hk ha hb => exact .inl ⟨_, .gone k a b hk ha hb⟩
  | wait k a n u pt hk hu h0 hun hl hm => exact .inr ⟨k, a, n, hk, rfl, ⟨u, pt, hu, h0, hun⟩, hl, hm⟩
theorem Wt.behind {g : Hp} (hr : rightL (layH g) = true) {k j : Int} {a n b m : Nat} {v w : Int} (h : Wt g k a n w) (q : Wt g j b m v) (ha : Aside g k a (n + 1) v) : Wt (movH g k a (n + 1)) j b m v := by
  obtain ⟨u, pt, hu, h0, hun⟩ := q.word
  have e1 := refR_movH h.part h.len
  have h1 := ha.pos j b q.part q.ref (by have := q.len; omega)
  have h2 := ha.room j b m u pt q.part q.ref hu h0 hun
  have h3 := movH_room hr h.part h.len h.room
  exact ⟨q.part, by rw [e1]; exact q.ref, ⟨u, pt, by rw [movH_word h.part (by omega) q.part h1]; exact hu, h0, hun⟩, by rw [movH_len h.part q.part]; exact q.len, by rw [h3]; omega⟩
/-- what waits is one of the objects -/
theorem Wd.aside {h : Hp} {p : Pts} (r : RightH h p) {w v : Int} (hw : Wd h p w) (hv : Wd h p v) {k : Int} {a n : Nat} (ht : Wt h k a n w) (hn : w ≠ v) : Aside h k a (n + 1) v := by
  cases hw with
  | null => exact (refR_ne r.lay (by omega) ht.ref.symm).elim
  | obj j o hj ho =>
    obtain ⟨b, m, hb, hm, hbl, _⟩ := obj_at r hj ho
    have hl := ht.len
    have e := ht.ref
    rw [hb] at e
    obtain ⟨e1, e2⟩ := refR_inj r.lay hj (by have := ht.part; omega) (by rw [sizL_layH hj]; omega) (by rw [sizL_layH (by have := ht.part; omega)]; omega) e
    subst e1
    have e3 : b = a := by omega
    subst e3
    obtain ⟨u, pt, hu, h0, hun⟩ := ht.word
    obtain ⟨u', hu', hc⟩ := (Tiles.stands (r.tiles hj) o ho).1.word
    rw [hb, Int.toNat_natCast, hu] at hu'
    cases hu'
    by_cases hg : o.gone = true
    · rw [if_pos hg] at hc
      exact (h0 hc.2.1).elim
    rw [if_neg hg, hun] at hc
    have e4 : o.size = n := by have := hc.2.1; simp only [Prod.mk.injEq] at this; omega
    cases hv with
    | null => exact ⟨fun j' b' hj' he => (refR_ne r.lay (by omega) he.symm).elim, fun j' b' _ _ _ hj' he => (refR_ne r.lay (by omega) he.symm).elim⟩
    | obj i q hi hq =>
      refine obj_aside r ht.part hi ho hq (fun e => hn ?_) (by simpa using hg) hb e4
      rw [e.1, e.2]
theorem again_two {h : Hp} {p : Pts} (r : RightH h p) {w v : Int} (hw : Wd h p w) (hv : Wd h p v) :
    (fwd (fwd h w).2.1 v).2.2 = 0 ∧ (fwd h v).2.2 = 0 ∧ (fwd (fwd h v).2.1 w).2.2 = 0 ∧ (fwd h v).2.1.low.length ≤ (fwd (fwd h w).2.1 v).2.1.low.length ∧ ((fwd (fwd h w).2.1 v).1 = (fwd h w).1 ↔ (fwd (fwd h v).2.1 w).1 = (fwd h v).1) := by
  have hr := r.lay
  by_cases hwv : w = v
  · subst hwv
    obtain ⟨h1, h2, h3, h4⟩ := (hw.kd r).again hr
    simp [h1, h3]
  rcases (hw.kd r).split with ⟨x, hx⟩ | ⟨k, a, n, ht⟩
  · rcases (hv.kd r).split with ⟨y, hy⟩ | ⟨j, b, m, hs⟩
    · simp [hx.fwd hr, hy.fwd hr, eq_comm]
    · have ha := Wd.aside r hv hw hs (Ne.symm hwv)
      have h2 := (hx.behind hs.part hs.len (by omega) ha).fwd (movH_right hr hs.part hs.len hs.room)
      simp [hx.fwd hr, hs.fwd hr, h2, eq_comm]
  · have ha := Wd.aside r hw hv ht hwv
    have hr1 := movH_right hr ht.part ht.len ht.room
    rcases (hv.kd r).split with ⟨y, hy⟩ | ⟨j, b, m, hs⟩
    · have h2 := (hy.behind ht.part ht.len (by omega) ha).fwd hr1
      have := (movH_low ht.part ht.len).1
      simp [hy.fwd hr, ht.fwd hr, h2, eq_comm]
      omega
    · have hb := Wd.aside r hv hw hs (Ne.symm hwv)
      have hr2 := movH_right hr hs.part hs.len hs.room
      have h1 := ht.fwd hr
      have h2 := hs.fwd hr
      have q1 := ht.behind hr hs ha
      have q2 := hs.behind hr ht hb
      have h3 := q1.fwd hr1
      have h4 := q2.fwd hr2
      have l1 := (movH_low ht.part ht.len).1
      have l2 := (movH_low hs.part hs.len).1
      have l3 := (movH_low q1.part q1.len).1
      rw [refR_movH ht.part ht.len] at h3
      rw [refR_movH hs.part hs.len] at h4
      simp only [h1, h2, h3, h4, true_and]
      refine ⟨by omega, ?_⟩
      unfold refR
      constructor <;> intro e <;> omega
/-- what Pointer tells is 0, or the pointer to an object -/
theorem ptrR_wd {h : Hp} {p : Pts} (r : RightH h p) {k c : Int} (hk : 1 ≤ k ∧ k ≤ 4) : Wd h p (ptrR h k c) := by
  unfold ptrR
  split
  · exact .null
  · rename_i hne
    have hr : rightR h = true := by unfold rightR; rw [r.num, r.parts]; simpa using r.ok
    have e : (objsR h k).1 = p.at k := by unfold objsR; rw [if_pos ⟨hr, hk⟩, r.parts]; rfl
    rw [e] at hne ⊢
    have hpos : 0 < (p.at k).length := List.length_pos_iff.2 hne
    have hpk := pick_lt (c := c) (n := ((p.at k).length : Int)) (by omega)
    obtain ⟨i, hi⟩ := Int.eq_ofNat_of_zero_le hpk.1
    rw [hi, Int.toNat_natCast]
    have hil : i < (p.at k).length := by omega
    have hx : (p.at k).getD i default = (p.at k)[i] := by simp [List.getD, hil]
    rw [hx]
    have hmem := List.getElem_mem hil
    obtain ⟨a, n, ha, _, hl, _⟩ := obj_at r hk hmem
    have := addr_in r.lay hk (a := (p.at k)[i].at_) (by rw [ha, sizL_layH hk]; omega)
    rw [this]
    exact .obj k _ hk hmem
theorem ptrR_not {h : Hp} (hr : rightR h = false) (k c : Int) : ptrR h k c = 0 := by
  unfold ptrR objsR
  simp [hr]
/-- of a heap whose layout is right, and two pointers -/
theorem again_ptrs {h : Hp} (hl : rightL (layH h) = true) {k j c d : Int} (hk : 1 ≤ k ∧ k ≤ 4) (hj : 1 ≤ j ∧ j ≤ 4) :
    ((fwd h (ptrR h k c)).2.2 = 0 ∧ fwd (fwd h (ptrR h k c)).2.1 (ptrR h k c) = ((fwd h (ptrR h k c)).1, (fwd h (ptrR h k c)).2.1, 0) ∧ fwd (fwd h (ptrR h k c)).2.1 (fwd h (ptrR h k c)).1 = ((fwd h (ptrR h k c)).1, (fwd h (ptrR h k c)).2.1, 0)) ∧
    (fwd (fwd h (ptrR h k c)).2.1 (ptrR h j d)).2.2 = 0 ∧ (fwd h (ptrR h j d)).2.2 = 0 ∧ (fwd (fwd h (ptrR h j d)).2.1 (ptrR h k c)).2.2 = 0 ∧ (fwd h (ptrR h j d)).2.1.low.length ≤ (fwd (fwd h (ptrR h k c)).2.1 (ptrR h j d)).2.1.low.length ∧
    ((fwd (fwd h (ptrR h k c)).2.1 (ptrR h j d)).1 = (fwd h (ptrR h k c)).1 ↔ (fwd (fwd h (ptrR h j d)).2.1 (ptrR h k c)).1 = (fwd h (ptrR h j d)).1) := by
  cases hr : rightR h
  · rw [ptrR_not hr, ptrR_not hr]
    simp [fwd_null hl]
  · obtain ⟨p, r⟩ := rightH_of hr
    have h1 := ((ptrR_wd r hk (c := c)).kd r).again hl
    exact ⟨⟨h1.1, h1.2.2.1, h1.2.2.2⟩, again_two r (ptrR_wd r hk) (ptrR_wd r hj)⟩
end Vm
