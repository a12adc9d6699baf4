/-
  Theory of right heaps: how objects tile a part, where a pointer is found, what Forward does to an object.
-/
import Derived.Test.YtfplljcicihneaaCi
namespace Vm
open Go Go.Proofs
set_option linter.unusedSimpArgs false
set_option linter.unusedVariables false
set_option maxRecDepth 100000
/-- the object o stands at its place among the words -/
structure Stands (ws : List Int) (old : Bool) (o : Ob) : Prop where
  nat : 0 ≤ o.at_
  shape : shapeOk o.size o.ptrs = true
  fits : o.at_ + 1 + o.size ≤ ws.length
  slots : slotsOk ((ws.drop (o.at_.toNat + 1)).take o.size.toNat) o.gone o.ptrs 0 = true
  word : ∃ w, ws[o.at_.toNat]? = some w ∧ (if o.gone then old = true ∧ (adr w).2 = 0 ∧ o.target = (adr w).1 else (old = true → ¬ (adr w).2 = 0) ∧ unpk w = (o.size, o.ptrs, 0) ∧ o.target = 0)
/-- objects, one behind the other, from a place to the words' end -/
def Tiles (ws : List Int) (old : Bool) : Nat → List Ob → Prop
  | a, [] => ws.length ≤ a
  | a, o :: l => o.at_ = a ∧ Stands ws old o ∧ Tiles ws old (a + 1 + o.size.toNat) l
theorem objR_stands {ws : List Int} {shs : List (Int × Int)} {old : Bool} {a tk t : Nat} {w : Int} {o : Ob} (hw : ws[a]? = some w) (ho : objR shs old a tk w = some (o, t)) (hl : ¬ (ws.length : Int) < a + 1 + o.size)
    (hs : ¬ slotsOk ((ws.drop (a + 1)).take o.size.toNat) o.gone o.ptrs 0 = false) : o.at_ = a ∧ Stands ws old o := by
  have h2 := objR_shape ho
  refine ⟨h2.2, ?_, h2.1, ?_, ?_, w, ?_, ?_⟩
  · rw [h2.2]; omega
  · rw [h2.2]; omega
  · rw [h2.2]; simpa using hs
  · rw [h2.2]; simpa using hw
  · unfold objR at ho
    split at ho
    · rename_i hc
      split at ho
      · cases ho
      · split at ho
        · cases ho; simpa using hc
        · cases ho
    · rename_i hc
      split at ho
      · rename_i hu
        cases ho
        simp only [Bool.false_eq_true, if_false]
        refine ⟨fun h1 h3 => hc ⟨h1, h3⟩, ?_, trivial⟩
        rw [← hu]
      · cases ho
theorem walkR_tiles {ws : List Int} {shs : List (Int × Int)} {old : Bool} : ∀ (f a tk : Nat) (acc l : List Ob), walkR ws shs old f a tk acc = (l, 0) → ∃ r, l = acc ++ r ∧ Tiles ws old a r
  | 0, _, _, _, _, h => by simp [walkR] at h
  | f + 1, a, tk, acc, l, h => by
    unfold walkR at h
    split at h
    · rename_i hn
      split at h
      · simp at h
      · simp only [Prod.mk.injEq, and_true] at h
        subst h
        exact ⟨[], by simp, List.getElem?_eq_none_iff.1 hn⟩
    · rename_i w hw
      split at h
      · simp at h
      · rename_i o t ho
        split at h
        · simp at h
        rename_i h1
        split at h
        · simp at h
        rename_i h2
        obtain ⟨r, rfl, hr⟩ := walkR_tiles f _ _ _ _ h
        have hs := objR_stands hw ho h1 h2
        exact ⟨o :: r, by simp, hs.1, hs.2, hr⟩
theorem walkW_tiles {ws : List Int} {shs : List (Int × Int)} {old : Bool} {l : List Ob} (h : walkW ws shs old = (l, 0)) : Tiles ws old 0 l := by
  obtain ⟨r, h1, h2⟩ := walkR_tiles _ _ _ _ _ h
  simp at h1
  subst h1
  exact h2
theorem Tiles.stands {ws : List Int} {old : Bool} : ∀ {a : Nat} {l : List Ob}, Tiles ws old a l → ∀ o ∈ l, Stands ws old o ∧ (a : Int) ≤ o.at_
  | _, [], _, _, h => by simp at h
  | a, o :: l, h, x, hx => by
    have hs := shapeOk_iff.1 h.2.1.shape
    rcases List.mem_cons.1 hx with rfl | hx
    · exact ⟨h.2.1, by rw [h.1]; omega⟩
    · have := Tiles.stands h.2.2 x hx
      exact ⟨this.1, by have := this.2; omega⟩
/-- two objects do not meet -/
theorem Tiles.apart {ws : List Int} {old : Bool} : ∀ {a : Nat} {l : List Ob}, Tiles ws old a l → ∀ o ∈ l, ∀ q ∈ l, o = q ∨ o.at_ + 1 + o.size ≤ q.at_ ∨ q.at_ + 1 + q.size ≤ o.at_
  | _, [], _, _, h, _, _ => by simp at h
  | a, x :: l, h, o, ho, q, hq => by
    have hs := shapeOk_iff.1 h.2.1.shape
    have e := h.1
    rcases List.mem_cons.1 ho with rfl | ho
    · rcases List.mem_cons.1 hq with rfl | hq
      · exact .inl rfl
      · have := (Tiles.stands h.2.2 q hq).2
        exact .inr (.inl (by omega))
    · rcases List.mem_cons.1 hq with hq | hq
      · have := (Tiles.stands h.2.2 o ho).2
        rw [hq]
        exact .inr (.inr (by omega))
      · exact Tiles.apart h.2.2 o ho q hq
/-- the right heap's objects -/
structure RightH (h : Hp) (p : Pts) : Prop where
  parts : partsR h = some p
  num : numR h = true
  ok : rightP h p = true
  low : Tiles h.low false 0 p.low
  high : Tiles h.high false 0 p.high
  old : Tiles h.old true 0 p.old
  far : Tiles h.far true 0 p.far
theorem rightH_of {h : Hp} (hr : rightR h = true) : ∃ p, RightH h p := by
  obtain ⟨p, h1, h2, h3⟩ := right_parts hr
  refine ⟨p, h1, h3, h2, ?_, ?_, ?_, ?_⟩
  all_goals
   clear h3
   unfold partsR at h1
   dsimp only at h1
   split at h1
   · cases h1
   rename_i c1
   split at h1
   · cases h1
   rename_i c2
   cases h1
   have c3 : (walkW h.low [] false).2 = 0 ∧ (walkW h.high [] false).2 = 0 := by
     refine ⟨Decidable.byContradiction fun hc => c1 (.inl hc), Decidable.byContradiction fun hc => c1 (.inr hc)⟩
   have c4 : ∀ x : Int, ¬ x ≠ 0 → x = 0 := fun x hx => Decidable.byContradiction hx
   have e3 := c4 _ (fun hx => c2 (.inr (.inr (.inl hx))))
   have e4 := c4 _ (fun hx => c2 (.inr (.inr (.inr hx))))
   first | exact walkW_tiles (Prod.ext rfl c3.1) | exact walkW_tiles (Prod.ext rfl c3.2) | exact walkW_tiles (Prod.ext rfl e3) | exact walkW_tiles (Prod.ext rfl e4)
theorem RightH.tiles {h : Hp} {p : Pts} (r : RightH h p) {k : Int} (hk : 1 ≤ k ∧ k ≤ 4) : Tiles (partH h k) (decide (2 < k)) 0 (p.at k) := by
  have : k = 1 ∨ k = 2 ∨ k = 3 ∨ k = 4 := by omega
  rcases this with rfl | rfl | rfl | rfl
  · exact r.low
  · exact r.high
  · exact r.old
  · exact r.far
theorem RightH.lay {h : Hp} {p : Pts} (r : RightH h p) : rightL (layH h) = true := by
  have := r.num
  unfold numR at this
  simp only [Bool.and_eq_true] at this
  exact this.1.1.1.1
theorem RightH.room {h : Hp} {p : Pts} (r : RightH h p) : (h.low.length : Int) + h.high.length + waitR p ≤ h.cap := by
  have := r.ok
  unfold rightP at this
  simp only [Bool.and_eq_true, decide_eq_true_eq] at this
  exact this.2
/-- the pointer to a word of a part -/
def refR (l : Ly) (k a : Int) : Int := 2 * (fstL l k + a) + 1
theorem adr_ref {l : Ly} (hr : rightL l = true) {k a : Int} (ha : 0 ≤ a) : adr (refR l k a) = (fstL l k + a, 0) := by
  have := fstL_range hr k
  unfold adr refR
  rw [if_neg (by omega), if_neg (by omega)]
  simp only [Prod.mk.injEq, and_true]
  omega
theorem addr_in {l : Ly} (hr : rightL l = true) {k a : Int} (hk : 1 ≤ k ∧ k ≤ 4) (ha : 0 ≤ a ∧ a < sizL l k) : addrL l k a = (fstL l k + a, 0) := by
  unfold addrL
  rw [if_neg (by simp [hr]), if_neg (by omega), if_neg (by omega)]
/-- each part is found where it is, and nowhere else -/
theorem find_in {l : Ly} (hr : rightL l = true) {k a : Int} (hk : 1 ≤ k ∧ k ≤ 4) (ha : 0 ≤ a ∧ a < sizL l k) : findL l (fstL l k + a) = (k, a, 0) := by
  have h := rightL_iff.1 hr
  have ht := toCap hr
  unfold findL inL
  rw [if_neg (by simp [hr])]
  simp only [Bool.and_eq_true, decide_eq_true_eq]
  have hk4 : k = 1 ∨ k = 2 ∨ k = 3 ∨ k = 4 := by omega
  rcases hk4 with rfl | rfl | rfl | rfl
  · rw [if_pos (by omega)]; simp; omega
  · simp only [fstL, sizL] at ha ⊢
    simp only [show ¬ (2 : Int) = 1 by omega, if_false, if_true] at ha ⊢
    rw [if_neg (by omega), if_pos (by omega)]; simp; omega
  · simp only [fstL, sizL] at ha ⊢
    simp only [show ¬ (3 : Int) = 1 by omega, show ¬ (3 : Int) = 2 by omega, show ¬ (2 : Int) = 1 by omega, if_false, if_true] at ha ⊢
    rw [if_neg (by omega), if_neg (by omega), if_pos (by omega)]; simp; omega
  · simp only [fstL, sizL] at ha ⊢
    simp only [show ¬ (4 : Int) = 1 by omega, show ¬ (4 : Int) = 2 by omega, show ¬ (4 : Int) = 3 by omega, show ¬ (3 : Int) = 1 by omega, show ¬ (3 : Int) = 2 by omega, show ¬ (2 : Int) = 1 by omega, if_false, if_true] at ha ⊢
    rw [if_neg (by omega), if_neg (by omega), if_neg (by omega), if_pos (by omega)]; simp; omega
end Vm
