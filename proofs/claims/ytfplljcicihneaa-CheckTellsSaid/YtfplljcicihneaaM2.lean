/-
  The checker's walk finds the document's parts.
-/
import Derived.Test.YtfplljcicihneaaM1
import Derived.Test.YtfplljcicihneaaP1
namespace Vm
open Go Go.Proofs
set_option linter.unusedSimpArgs false
set_option linter.unusedVariables false
set_option maxRecDepth 100000
theorem Tiles.order {ws : List Int} {old : Bool} : ∀ {a : Nat} {l : List Ob}, Tiles ws old a l → l.Pairwise fun x y => x.at_ < y.at_
  | _, [], _ => .nil
  | a, o :: l, h => by
    have hs := shapeOk_iff.1 h.2.1.shape
    refine .cons (fun x hx => ?_) (Tiles.order h.2.2)
    have := (Tiles.stands h.2.2 x hx).2
    have := h.1
    omega
theorem start_eq {h : Hp} (hr : rightL (layH h) = true) {k : Int} (hk : 1 ≤ k ∧ k ≤ 4) {old : Bool} {o : Ob} (hs : Stands (partH h k) old o) : startR h k o.at_ = fstL (layH h) k + o.at_ := by
  have := shapeOk_iff.1 hs.shape
  have := hs.fits
  have := hs.nat
  unfold startR
  rw [addr_in hr hk ⟨by omega, by rw [sizL_layH hk]; omega⟩]
theorem start_find {h : Hp} (hr : rightL (layH h) = true) {k : Int} (hk : 1 ≤ k ∧ k ≤ 4) {old : Bool} {o : Ob} (hs : Stands (partH h k) old o) : findL (layH h) (startR h k o.at_) = (k, o.at_, 0) := by
  have := shapeOk_iff.1 hs.shape
  have := hs.fits
  have := hs.nat
  rw [start_eq hr hk hs]
  exact find_in hr hk ⟨by omega, by rw [sizL_layH hk]; omega⟩
theorem Tiles.starts {h : Hp} (hr : rightL (layH h) = true) {k : Int} (hk : 1 ≤ k ∧ k ≤ 4) {old : Bool} {l : List Ob} (ht : Tiles (partH h k) old 0 l) : l.Pairwise fun x y => startR h k x.at_ ≠ startR h k y.at_ := by
  refine List.Pairwise.imp_of_mem ?_ ht.order
  intro x y hx hy hlt
  rw [start_eq hr hk (ht.stands x hx).1, start_eq hr hk (ht.stands y hy).1]
  omega
/-- the shapes by address -/
theorem noteLm_at {h : Hp} {a : Int} : ∀ {l : List Ob} {m : List (Int × (Int × Int))}, (l.Pairwise fun x y => startR h 1 x.at_ ≠ startR h 1 y.at_) → getA (noteLm h 1 m l) a = match atR h 1 l a with
    | some o => some (o.size, o.ptrs)
    | none => getA m a
  | [], m, _ => rfl
  | o :: l, m, hp => by
    obtain ⟨h1, h2⟩ := List.pairwise_cons.1 hp
    rw [noteLm, noteLm_at h2]
    unfold atR
    rw [List.find?_cons]
    cases hf : l.find? (fun o => startR h 1 o.at_ == a) with
    | some q =>
      have hq := List.mem_of_find?_eq_some hf
      have he : startR h 1 q.at_ = a := by have := List.find?_some hf; simpa using this
      have hne : (startR h 1 o.at_ == a) = false := by
        have := h1 q hq
        simp only [beq_eq_false_iff_ne]
        omega
      rw [hne]
    | none =>
      simp only [if_true, getA_put]
      by_cases he : startR h 1 o.at_ = a
      · have he' : (addrL (layH h) 1 o.at_).1 = a := he
        simp [he, he']
      · have he' : ¬ (addrL (layH h) 1 o.at_).1 = a := he
        have : (startR h 1 o.at_ == a) = false := by simpa using he
        simp [this, he']
theorem noteLm_other {h : Hp} {k : Int} (hk : ¬ k = 1) : ∀ {l : List Ob} {m : List (Int × (Int × Int))}, noteLm h k m l = m
  | [], m => rfl
  | o :: l, m => by rw [noteLm, if_neg hk]; exact noteLm_other hk
theorem notePm_at {h : Hp} {k a : Int} : ∀ {l : List Ob} {m : List (Int × Int)}, getA (notePm h k m l) a = if (atR h k l a).isSome = true then some k else getA m a
  | [], m => rfl
  | o :: l, m => by
    rw [notePm, notePm_at]
    unfold atR
    rw [List.find?_cons, getA_put]
    by_cases he : startR h k o.at_ = a
    · have he' : (addrL (layH h) k o.at_).1 = a := he
      have : (startR h k o.at_ == a) = true := by simpa using he
      simp [this, he']
    · have he' : ¬ (addrL (layH h) k o.at_).1 = a := he
      have : (startR h k o.at_ == a) = false := by simpa using he
      simp [this, he']
theorem shapesC_pre {lm : List (Int × (Int × Int))} {ws : List Int} : ∀ (f i : Nat) (acc : List (Int × Int)), ∃ r, shapesC lm ws f i acc = acc ++ r
  | 0, _, acc => ⟨[], by simp [shapesC]⟩
  | f + 1, i, acc => by
    rw [shapesC]
    cases ws[i]? with
    | none => exact ⟨[], by simp⟩
    | some w =>
      simp only
      split
      · split
        · exact ⟨[], by simp⟩
        · obtain ⟨r, hr⟩ := shapesC_pre (lm := lm) (ws := ws) f _ _
          exact ⟨_, by rw [hr, List.append_assoc]⟩
      · split
        · exact shapesC_pre f _ _
        · exact ⟨[], by simp⟩
theorem shapesC_eq {lm : List (Int × (Int × Int))} {h : Hp} {low : List Ob} (hlm : ∀ a, getA lm a = (atR h 1 low a).map fun o => (o.size, o.ptrs)) {ws : List Int} : ∀ (f i : Nat) (acc shs : List (Int × Int)), shapesR h ws low f i acc = some shs → shapesC lm ws f i acc = shs
  | 0, _, _, _, he => by simp [shapesR] at he
  | f + 1, i, acc, shs, he => by
    rw [shapesR] at he
    rw [shapesC]
    cases hw : ws[i]? with
    | none => rw [hw] at he; simpa using he
    | some w =>
      rw [hw] at he
      simp only at he ⊢
      by_cases ha : (adr w).2 = 0
      · rw [if_pos ha] at he ⊢
        rw [hlm]
        cases hq : atR h 1 low (adr w).1 with
        | none => rw [hq] at he; cases he
        | some o => rw [hq] at he; exact shapesC_eq hlm _ _ _ _ he
      · rw [if_neg ha] at he ⊢
        by_cases hu : (unpk w).2.2 = 0
        · rw [if_pos hu] at he ⊢; exact shapesC_eq hlm _ _ _ _ he
        · rw [if_neg hu] at he; cases he
/-- where a shape lacks, the walk fails -/
theorem shapesC_none {lm : List (Int × (Int × Int))} {h : Hp} {low : List Ob} (hlm : ∀ a, getA lm a = (atR h 1 low a).map fun o => (o.size, o.ptrs)) {ws : List Int} : ∀ (f i : Nat) (acc : List (Int × Int)), 0 < f → ws.length < f + i → shapesR h ws low f i acc = none →
    ∀ (f' : Nat) (acc' : List Ob), (walkR ws (shapesC lm ws f i acc) true f' i acc.length acc').2 ≠ 0
  | 0, _, _, h0, _, _ => by omega
  | f + 1, i, acc, h0, hf, he => by
    intro f' acc'
    cases f' with
    | zero => simp [walkR]
    | succ f' =>
      rw [shapesR] at he
      rw [shapesC, walkR]
      cases hw : ws[i]? with
      | none => rw [hw] at he; cases he
      | some w =>
        have hlt := (List.getElem?_eq_some_iff.1 hw).1
        rw [hw] at he
        simp only at he ⊢
        by_cases ha : (adr w).2 = 0
        · rw [if_pos ha] at he ⊢
          rw [hlm]
          cases hq : atR h 1 low (adr w).1 with
          | none =>
            simp only [Option.map_none]
            have : objR acc true i acc.length w = none := by
              unfold objR
              rw [if_pos ⟨rfl, ha⟩]
              simp
            rw [this]
            simp
          | some o =>
            rw [hq] at he
            simp only [Option.map_some] at he ⊢
            obtain ⟨r, hr⟩ := shapesC_pre (lm := lm) (ws := ws) f (i + 1 + o.size.toNat) (acc ++ [(o.size, o.ptrs)])
            have ih := shapesC_none hlm f (i + 1 + o.size.toNat) (acc ++ [(o.size, o.ptrs)]) (by omega) (by omega) he f'
            generalize shapesC lm ws f (i + 1 + o.size.toNat) (acc ++ [(o.size, o.ptrs)]) = shs at *
            have hs : shs[acc.length]? = some (o.size, o.ptrs) := by rw [hr]; simp
            unfold objR
            rw [if_pos ⟨rfl, ha⟩, hs]
            simp only
            by_cases hsh : shapeOk o.size o.ptrs = true
            · rw [if_pos hsh]
              simp only
              split
              · simp
              split
              · simp
              simpa using ih _
            · rw [if_neg hsh]; simp
        · rw [if_neg ha] at he ⊢
          by_cases hu : (unpk w).2.2 = 0
          · rw [if_pos hu] at he ⊢
            have ih := shapesC_none hlm f (i + 1 + (unpk w).1.toNat) acc (by omega) (by omega) he f'
            generalize shapesC lm ws f (i + 1 + (unpk w).1.toNat) acc = shs at *
            unfold objR
            rw [if_neg (fun hc => ha hc.2), if_pos hu]
            simp only
            split
            · simp
            split
            · simp
            exact ih _
          · rw [if_neg hu]
            have : objR acc true i acc.length w = none := by
              unfold objR
              rw [if_neg (fun hc => ha hc.2), if_neg hu]
            rw [this]
            simp
/-- what was found: the document's parts, and the maps of them -/
structure Found (h : Hp) (s : Ck) (p : Pts) : Prop where
  hp : s.h = h
  o1 : s.o1 = p.low
  o2 : s.o2 = p.high
  o3 : s.o3 = p.old
  o4 : s.o4 = p.far
  pm : s.pm = notePm h 4 (notePm h 3 (notePm h 2 (notePm h 1 [] p.low) p.high) p.old) p.far
theorem walked_parts {h : Hp} (hr : rightL (layH h) = true) : match partsR h with
    | some p => (walkedR (initCk h)).1 = true ∧ Found h (walkedR (initCk h)).2 p
    | none => (walkedR (initCk h)).1 = false := by
  unfold walkedR partsR
  dsimp only
  have s1 : walkStep (initCk h) 1 = walkW h.low [] false := rfl
  rw [walkedF, s1]
  by_cases e1 : (walkW h.low [] false).2 = 0
  case neg => rw [if_neg e1, if_pos (.inl e1)]
  rw [if_pos e1]
  have hT : Tiles h.low false 0 (walkW h.low [] false).1 := walkW_tiles (ws := h.low) (shs := []) (Prod.ext rfl e1)
  generalize (walkW h.low [] false).1 = l1 at *
  have s2 : walkStep (noteS (initCk h) 1 l1) 2 = walkW h.high [] false := rfl
  rw [walkedF, s2]
  by_cases e2 : (walkW h.high [] false).2 = 0
  case neg => rw [if_neg e2, if_pos (.inr e2)]
  rw [if_pos e2, if_neg (by simp [e1, e2])]
  generalize (walkW h.high [] false).1 = l2 at *
  have hlm : ∀ a, getA (noteLm h 1 [] l1) a = (atR h 1 l1 a).map fun o => (o.size, o.ptrs) := by
    intro a
    rw [noteLm_at (Tiles.starts hr (k := 1) (by omega) (by simpa using hT))]
    cases atR h 1 l1 a <;> rfl
  have hlm2 : (noteS (noteS (initCk h) 1 l1) 2 l2).lm = noteLm h 1 [] l1 := noteLm_other (by omega)
  have s3 : walkStep (noteS (noteS (initCk h) 1 l1) 2 l2) 3 = walkW h.old (shapesL (noteLm h 1 [] l1) h.old) true := by
    rw [← hlm2]; rfl
  rw [walkedF, s3]
  cases hp : shapesW h h.old l1 with
  | none =>
    have := shapesC_none hlm (h.old.length + 1) 0 [] (by omega) (by omega) hp (h.old.length + 1) []
    have e3 : ¬ (walkW h.old (shapesL (noteLm h 1 [] l1) h.old) true).2 = 0 := this
    rw [if_neg e3, if_pos (.inl rfl)]
  | some shs =>
  have hs3 : shapesL (noteLm h 1 [] l1) h.old = shs := shapesC_eq hlm _ _ _ _ hp
  rw [hs3]
  simp only [Option.getD_some]
  by_cases e3 : (walkW h.old shs true).2 = 0
  case neg => rw [if_neg e3, if_pos (.inr (.inr (.inl e3)))]
  rw [if_pos e3]
  generalize (walkW h.old shs true).1 = l3 at *
  have hlm3 : (noteS (noteS (noteS (initCk h) 1 l1) 2 l2) 3 l3).lm = noteLm h 1 [] l1 := by
    rw [← hlm2]; exact noteLm_other (by omega)
  have s4 : walkStep (noteS (noteS (noteS (initCk h) 1 l1) 2 l2) 3 l3) 4 = walkW h.far (shapesL (noteLm h 1 [] l1) h.far) true := by
    rw [← hlm3]; rfl
  rw [walkedF, s4]
  cases hq : shapesW h h.far l1 with
  | none =>
    have := shapesC_none hlm (h.far.length + 1) 0 [] (by omega) (by omega) hq (h.far.length + 1) []
    have e4 : ¬ (walkW h.far (shapesL (noteLm h 1 [] l1) h.far) true).2 = 0 := this
    rw [if_neg e4, if_pos (.inr (.inl rfl))]
  | some shs' =>
  have hs4 : shapesL (noteLm h 1 [] l1) h.far = shs' := shapesC_eq hlm _ _ _ _ hq
  rw [hs4]
  simp only [Option.getD_some]
  by_cases e4 : (walkW h.far shs' true).2 = 0
  case neg => rw [if_neg e4, if_pos (.inr (.inr (.inr e4)))]
  rw [if_pos e4, if_neg (by simp [e3, e4])]
  generalize (walkW h.far shs' true).1 = l4 at *
  exact ⟨rfl, rfl, rfl, rfl, rfl, rfl, rfl⟩
end Vm
/-
  The checker's rules on pointers are the document's.
-/
namespace Vm
open Go Go.Proofs
set_option linter.unusedSimpArgs false
set_option linter.unusedVariables false
set_option maxRecDepth 100000
theorem parts_tiles {h : Hp} {p : Pts} (h1 : partsR h = some p) {k : Int} (hk : 1 ≤ k ∧ k ≤ 4) : Tiles (partH h k) (decide (2 < k)) 0 (p.at k) := by
  have : k = 1 ∨ k = 2 ∨ k = 3 ∨ k = 4 := by omega
  unfold partsR at h1
  dsimp only at h1
  split at h1
  · cases h1
  rename_i c1
  split at h1
  · cases h1
  rename_i c2
  cases h1
  have c3 : (walkW h.low [] false).2 = 0 ∧ (walkW h.high [] false).2 = 0 := by
    refine ⟨Decidable.byContradiction fun hc => c1 (.inl hc), Decidable.byContradiction fun hc => c1 (.inr hc)⟩
  have c4 : ∀ x : Int, ¬ x ≠ 0 → x = 0 := fun x hx => Decidable.byContradiction hx
  have e3 := c4 _ (fun hx => c2 (.inr (.inr (.inl hx))))
  have e4 := c4 _ (fun hx => c2 (.inr (.inr (.inr hx))))
  rcases this with rfl | rfl | rfl | rfl
  · exact walkW_tiles (Prod.ext rfl c3.1)
  · exact walkW_tiles (Prod.ext rfl c3.2)
  · exact walkW_tiles (Prod.ext rfl e3)
  · exact walkW_tiles (Prod.ext rfl e4)
theorem parts_gone_low {h : Hp} {p : Pts} (h1 : partsR h = some p) {k : Int} (hk : 3 ≤ k ∧ k ≤ 4) {o : Ob} (ho : o ∈ p.at k) (hg : o.gone = true) : ∃ q ∈ p.low, startR h 1 q.at_ = o.target ∧ q.size = o.size ∧ q.ptrs = o.ptrs := by
  unfold partsR at h1
  dsimp only at h1
  split at h1
  · cases h1
  split at h1
  · cases h1
  rename_i c2
  have aux : ∀ (ws : List Int) (x : Option (List (Int × Int))), x = shapesW h ws (walkW h.low [] false).1 → ¬ x = none → (walkW ws (x.getD []) true).2 = 0 → o ∈ (walkW ws (x.getD []) true).1 →
      ∃ q ∈ (walkW h.low [] false).1, startR h 1 q.at_ = o.target ∧ q.size = o.size ∧ q.ptrs = o.ptrs := by
    intro ws x hx hn h0 ho
    cases x with
    | none => exact (hn rfl).elim
    | some shs =>
      simp only [Option.getD_some] at h0 ho
      obtain ⟨r', e1, e2⟩ := shapes_walk _ _ _ _ hx.symm (ws.length + 1) [] (walkW ws shs true).1 (Prod.ext rfl h0)
      simp only [List.nil_append] at e1
      rw [e1] at ho
      obtain ⟨q, hq, hs⟩ := e2 o ho hg
      have := List.find?_some hq
      exact ⟨q, atR_in hq, by simpa using this, hs⟩
  have e3 : ¬ shapesW h h.old (walkW h.low [] false).1 = none := fun e => c2 (.inl e)
  have e4 : ¬ shapesW h h.far (walkW h.low [] false).1 = none := fun e => c2 (.inr (.inl e))
  have e5 : (walkW h.old ((shapesW h h.old (walkW h.low [] false).1).getD []) true).2 = 0 := Decidable.byContradiction fun e => c2 (.inr (.inr (.inl e)))
  have e6 : (walkW h.far ((shapesW h h.far (walkW h.low [] false).1).getD []) true).2 = 0 := Decidable.byContradiction fun e => c2 (.inr (.inr (.inr e)))
  cases h1
  have : k = 3 ∨ k = 4 := by omega
  rcases this with rfl | rfl
  · exact aux _ _ rfl e3 e5 (by simpa using ho)
  · exact aux _ _ rfl e4 e6 (by simpa using ho)
/-- a part in which an address is an object's -/
theorem at_find {h : Hp} (hr : rightL (layH h) = true) {p : Pts} (hp : partsR h = some p) {k : Int} (hk : 1 ≤ k ∧ k ≤ 4) {a : Int} (hi : (atR h k (p.at k) a).isSome = true) : ∃ b, findL (layH h) a = (k, b, 0) := by
  obtain ⟨o, ho⟩ := Option.isSome_iff_exists.1 hi
  have h1 := List.mem_of_find?_eq_some ho
  have h2 : startR h k o.at_ = a := by have := List.find?_some ho; simpa using this
  rw [← h2]
  exact ⟨_, start_find hr hk ((parts_tiles hp hk).stands o h1).1⟩
theorem at_one {h : Hp} (hr : rightL (layH h) = true) {p : Pts} (hp : partsR h = some p) {k j : Int} (hk : 1 ≤ k ∧ k ≤ 4) (hj : 1 ≤ j ∧ j ≤ 4) (hn : k ≠ j) {a : Int} (hi : (atR h k (p.at k) a).isSome = true) : (atR h j (p.at j) a).isSome = false := by
  cases hx : (atR h j (p.at j) a).isSome with
  | false => rfl
  | true =>
    obtain ⟨b, hb⟩ := at_find hr hp hk hi
    obtain ⟨c, hc⟩ := at_find hr hp hj hx
    rw [hb] at hc
    simp only [Prod.mk.injEq] at hc
    exact (hn hc.1).elim
section
variable {h : Hp} {s : Ck} {p : Pts}
theorem Found.obs (hf : Found h s p) {k : Int} : s.obs k = p.at k := by
  unfold Ck.obs Pts.at
  rw [hf.o1, hf.o2, hf.o3, hf.o4]
theorem Found.pm_at (hf : Found h s p) (a : Int) : getA s.pm a = if (atR h 4 (p.at 4) a).isSome = true then some 4 else if (atR h 3 (p.at 3) a).isSome = true then some 3 else if (atR h 2 (p.at 2) a).isSome = true then some 2 else if (atR h 1 (p.at 1) a).isSome = true then some 1 else none := by
  rw [hf.pm, notePm_at, notePm_at, notePm_at, notePm_at]
  rfl
theorem Found.points (hf : Found h s p) (hr : rightL (layH h) = true) (hp : partsR h = some p) (w : Int) : pointsR s w 1 2 = goesR h p w 1 2 ∧ pointsR s w 3 4 = goesR h p w 3 4 ∧ pointsR s w 1 4 = (goesR h p w 1 2 || goesR h p w 3 4) := by
  unfold pointsR goesR
  by_cases h0 : w = 0
  · simp [h0]
  by_cases h1 : (adr w).2 = 0
  case neg => simp [h0, h1]
  simp only [h0, h1, decide_false, decide_true, Bool.false_or, Bool.true_and]
  rw [hf.pm_at]
  generalize (adr w).1 = a
  have o := fun k j hk hj hn => at_one (k := k) (j := j) hr hp hk hj hn (a := a)
  have o43 := o 4 3 (by omega) (by omega) (by omega)
  have o42 := o 4 2 (by omega) (by omega) (by omega)
  have o41 := o 4 1 (by omega) (by omega) (by omega)
  have o32 := o 3 2 (by omega) (by omega) (by omega)
  have o31 := o 3 1 (by omega) (by omega) (by omega)
  have o21 := o 2 1 (by omega) (by omega) (by omega)
  clear o
  generalize (atR h 1 (p.at 1) a).isSome = b1 at *
  generalize (atR h 2 (p.at 2) a).isSome = b2 at *
  generalize (atR h 3 (p.at 3) a).isSome = b3 at *
  generalize (atR h 4 (p.at 4) a).isSome = b4 at *
  cases b1 <;> cases b2 <;> cases b3 <;> cases b4 <;> simp_all
end
end Vm
/-
  The checker's rule on objects that are gone is the document's; the whole of the checker is.
-/
namespace Vm
open Go Go.Proofs
set_option linter.unusedSimpArgs false
set_option linter.unusedVariables false
set_option maxRecDepth 100000
/-- where the objects that are gone went -/
def tgS (l : List Ob) : List Int := (l.filter (·.gone)).map (·.target)
theorem putA_new {α : Type} {l : List (Int × α)} {k : Int} {x : α} (h : getA l k = none) : (putA l k x).length = l.length + 1 := by
  unfold getA at h
  rw [Option.map_eq_none_iff] at h
  have : l.findIdx? (·.1 == k) = none := by
    rw [List.findIdx?_eq_none_iff]
    intro y hy
    have := List.find?_eq_none.1 h y hy
    simpa using this
  unfold putA
  rw [this]
  simp
theorem copQ_spec {pm : List (Int × Int)} : ∀ {l : List Ob} {m : List (Int × Bool)} {K : List Int}, K.Nodup → (∀ a, getA m a = if a ∈ K then some true else none) → m.length = K.length →
    match copQ pm l m with
    | some m' => (∀ t ∈ tgS l, (getA pm t).getD 0 = 1) ∧ (K ++ tgS l).Nodup ∧ m'.length = (K ++ tgS l).length ∧ ∀ a, getA m' a = if a ∈ K ++ tgS l then some true else none
    | none => ¬ ((∀ t ∈ tgS l, (getA pm t).getD 0 = 1) ∧ (K ++ tgS l).Nodup)
  | [], m, K, hK, hm, hl => by simp only [copQ, tgS, List.filter_nil, List.map_nil, List.append_nil]; exact ⟨by simp, hK, hl, hm⟩
  | o :: l, m, K, hK, hm, hl => by
    rw [copQ]
    cases hg : o.gone with
    | false =>
      rw [if_neg (by simp)]
      have : tgS (o :: l) = tgS l := by simp [tgS, hg]
      rw [this]
      exact copQ_spec hK hm hl
    | true =>
      rw [if_pos rfl]
      have ht : tgS (o :: l) = o.target :: tgS l := by simp [tgS, hg]
      rw [ht]
      by_cases h1 : (getA pm o.target).getD 0 = 1
      · by_cases h2 : o.target ∈ K
        · rw [if_neg (by rw [hm, if_pos h2]; simp)]
          rintro ⟨_, hn⟩
          exact (List.nodup_append.1 hn).2.2 _ h2 _ (List.mem_cons_self ..) rfl
        · have hno : getA m o.target = none := by rw [hm, if_neg h2]
          rw [if_pos ⟨h1, by rw [hno]; rfl⟩]
          have ih := copQ_spec (pm := pm) (l := l) (m := putA m o.target true) (K := K ++ [o.target]) (by
              rw [List.nodup_append]
              refine ⟨hK, by simp, fun a ha b hb => ?_⟩
              simp at hb; subst hb
              intro e; subst e; exact h2 ha) (fun a => by
              rw [getA_put, hm]
              by_cases e : o.target = a
              · simp [e]
              · have e' : ¬ a = o.target := fun x => e x.symm
                simp [e, e']) (by rw [putA_new hno, hl]; simp)
          rw [List.append_assoc, List.singleton_append] at ih
          cases hc : copQ pm l (putA m o.target true) with
          | none =>
            rw [hc] at ih
            rintro ⟨q1, q2⟩
            exact ih ⟨fun t ht => q1 t (List.mem_cons_of_mem _ ht), q2⟩
          | some m' =>
            rw [hc] at ih
            refine ⟨fun t ht => ?_, ih.2⟩
            rcases List.mem_cons.1 ht with rfl | ht
            · exact h1
            · exact ih.1 t ht
      · rw [if_neg (fun hc => h1 hc.1)]
        rintro ⟨q1, _⟩
        exact h1 (q1 _ (List.mem_cons_self ..))
theorem tgL_count {l : List Ob} {a : Int} : tgL l a = (tgS l).count a := by
  unfold tgL tgS
  induction l with
  | nil => rfl
  | cons o l ih =>
    cases hg : o.gone
    · simpa [hg] using ih
    · by_cases ht : o.target = a
      · simp only [List.filter_cons, hg, ht]
        simpa [ht] using ih
      · have : ¬ (o.target == a) = true := by simpa using ht
        simp only [List.filter_cons, hg, ht]
        simpa [List.count_cons, ht] using ih
/-- a list of no duplicates within another, as long -/
theorem once_iff {T S : List Int} (hS : S.Nodup) (hTS : T ⊆ S) : (T.Nodup ∧ T.length = S.length) ↔ ∀ a ∈ S, T.count a = 1 := by
  constructor
  · rintro ⟨hT, hl⟩ a ha
    rw [hT.count]
    by_cases hm : a ∈ T
    · rw [if_pos hm]
    · have h1 : T ⊆ S.erase a := fun x hx => (hS.mem_erase_iff).2 ⟨fun e => hm (e ▸ hx), hTS hx⟩
      have h2 := hT.length_le_of_subset h1
      rw [List.length_erase_of_mem ha] at h2
      have := List.length_pos_of_mem ha
      omega
  · intro h
    have hT : T.Nodup := List.nodup_iff_count.2 fun a => by
      by_cases hm : a ∈ T
      · rw [h a (hTS hm)]
        omega
      · rw [List.count_eq_zero_of_not_mem hm]; omega
    refine ⟨hT, Nat.le_antisymm (hT.length_le_of_subset hTS) (hS.length_le_of_subset fun a ha => ?_)⟩
    exact List.count_pos_iff.1 (by rw [h a ha]; omega)
section
variable {h : Hp} {s : Ck} {p : Pts}
theorem Found.copied (hf : Found h s p) (hr : rightL (layH h) = true) (hp : partsR h = some p) : copiedCR s = (!h.cycle || p.low.all (tgOk h p)) := by
  have hT := parts_tiles hp (k := 1) (by omega)
  have hS : (p.low.map fun o => startR h 1 o.at_).Nodup := by
    have := Tiles.starts hr (k := 1) (by omega) hT
    rw [List.nodup_iff_pairwise_ne, List.pairwise_map]
    exact this
  have hin : ∀ t ∈ tgS s.o3 ++ tgS s.o4, t ∈ p.low.map fun o => startR h 1 o.at_ := by
    intro t ht
    have : ∃ k, (3 ≤ k ∧ k ≤ 4) ∧ t ∈ tgS (p.at k) := by
      rcases List.mem_append.1 ht with ht | ht
      · exact ⟨3, by omega, by rw [hf.o3] at ht; exact ht⟩
      · exact ⟨4, by omega, by rw [hf.o4] at ht; exact ht⟩
    obtain ⟨k, hk, ht⟩ := this
    simp only [tgS, List.mem_map, List.mem_filter] at ht
    obtain ⟨o, ⟨ho, hg⟩, rfl⟩ := ht
    obtain ⟨q, hq, he, _⟩ := parts_gone_low hp hk ho hg
    exact List.mem_map.2 ⟨q, hq, he⟩
  have hpm : ∀ t ∈ tgS s.o3 ++ tgS s.o4, (getA s.pm t).getD 0 = 1 := by
    intro t ht
    obtain ⟨q, hq, he⟩ := List.mem_map.1 (hin t ht)
    have h1 : (atR h 1 (p.at 1) t).isSome = true := by
      unfold atR
      rw [List.find?_isSome]
      exact ⟨q, hq, by simpa using he⟩
    have o := fun k hk hn => at_one (k := 1) (j := k) hr hp (by omega) hk hn h1
    rw [hf.pm_at, o 4 (by omega) (by omega), o 3 (by omega) (by omega), o 2 (by omega) (by omega), h1]
    rfl
  unfold copiedCR
  rw [hf.hp]
  cases hc : h.cycle
  · rfl
  simp only [Bool.not_true, Bool.false_or]
  have key := once_iff hS (T := tgS s.o3 ++ tgS s.o4) hin
  have hall : p.low.all (tgOk h p) = true ↔ ∀ a ∈ (p.low.map fun o => startR h 1 o.at_), (tgS s.o3 ++ tgS s.o4).count a = 1 := by
    rw [List.all_eq_true]
    constructor
    · intro hx a ha
      obtain ⟨o, ho, rfl⟩ := List.mem_map.1 ha
      have := hx o ho
      simp only [tgOk, decide_eq_true_eq, targR, tgL_count] at this
      rw [List.count_append, hf.o3, hf.o4]
      exact this
    · intro hx o ho
      have := hx _ (List.mem_map.2 ⟨o, ho, rfl⟩)
      rw [List.count_append, hf.o3, hf.o4] at this
      simp only [tgOk, decide_eq_true_eq, targR, tgL_count]
      exact this
  rw [List.length_map] at key
  have c1 := copQ_spec (pm := s.pm) (l := s.o3) (m := []) (K := []) (by simp) (by simp [getA]) rfl
  simp only [List.nil_append] at c1
  rw [Bool.eq_iff_iff, hall, ← key]
  cases h1 : copQ s.pm s.o3 [] with
  | none =>
    rw [h1] at c1
    simp only [Option.bind_none]
    constructor
    · intro hx; cases hx
    · rintro ⟨hn, _⟩
      exact (c1 ⟨fun t ht => hpm t (List.mem_append_left _ ht), (List.nodup_append.1 hn).1⟩).elim
  | some m =>
    rw [h1] at c1
    obtain ⟨q1, q2, q3, q4⟩ := c1
    simp only [Option.bind_some]
    have c2 := copQ_spec (pm := s.pm) (l := s.o4) (m := m) (K := tgS s.o3) q2 q4 q3
    cases h2 : copQ s.pm s.o4 m with
    | none =>
      rw [h2] at c2
      constructor
      · intro hx; cases hx
      · rintro ⟨hn, _⟩
        exact (c2 ⟨fun t ht => hpm t (List.mem_append_right _ ht), hn⟩).elim
    | some m' =>
      rw [h2] at c2
      obtain ⟨r1, r2, r3, r4⟩ := c2
      simp only [decide_eq_true_eq, r3, hf.o1]
      exact ⟨fun hx => ⟨r2, hx⟩, fun hx => hx.2⟩
end
end Vm
/-
  What the checker answers is what the document does.
-/
namespace Vm
open Go Go.Proofs
set_option linter.unusedSimpArgs false
set_option linter.unusedVariables false
set_option maxRecDepth 100000
theorem slots_zero : ∀ {l : List Int} {ptrs : Int} {i : Nat}, slotsOk l true ptrs i = true → ∀ w ∈ l, w = 0
  | [], _, _, _, w, hw => by simp at hw
  | x :: l, ptrs, i, h, w, hw => by
    simp only [slotsOk, Bool.and_eq_true, Bool.not_true, Bool.false_or, decide_eq_true_eq] at h
    rcases List.mem_cons.1 hw with rfl | hw
    · exact h.1.1
    · exact slots_zero h.2 w hw
theorem ptrsQ_iff {s : Ck} {k : Int} {q : Int → Int → Bool} : ptrsQ s k q = true ↔ ∀ o ∈ s.obs k, o.gone = false → ∀ j, j < o.ptrs.toNat → q ((o.at_.toNat + 1 + j : Nat) : Int) (wordAt (partH s.h k) (o.at_.toNat + 1 + j)) = true := by
  unfold ptrsQ obQ
  rw [List.all_eq_true]
  constructor
  · intro h o ho hg j hj
    have := h o ho
    rw [hg, Bool.false_or, List.all_eq_true] at this
    exact this j (List.mem_range.2 hj)
  · intro h o ho
    cases hg : o.gone
    · rw [Bool.false_or, List.all_eq_true]
      intro j hj
      exact h o ho hg j (List.mem_range.1 hj)
    · rfl
theorem ptrsR_iff {h : Hp} {p : Pts} (hp : partsR h = some p) {k : Int} (hk : 1 ≤ k ∧ k ≤ 4) : ptrsR h p k = true ↔ ∀ o ∈ p.at k, o.gone = false → ∀ j, j < o.ptrs.toNat → ptrOk h p k (o.at_.toNat + 1 + j) = true := by
  unfold ptrsR obPtrs
  rw [List.all_eq_true]
  constructor
  · intro h o ho hg j hj
    have := h o ho
    rw [List.all_eq_true] at this
    exact this j (List.mem_range.2 hj)
  · intro h' o ho
    rw [List.all_eq_true]
    intro j hj
    have hj := List.mem_range.1 hj
    cases hg : o.gone
    · exact h' o ho hg j hj
    · have hs := ((parts_tiles hp hk).stands o ho).1
      have hsh := shapeOk_iff.1 hs.shape
      have h1 := hs.slots
      rw [hg] at h1
      have hz := slots_zero h1
      have hfit := hs.fits
      have hnat := hs.nat
      have hlt : o.at_.toNat + 1 + j < (partH h k).length := by omega
      have hw : (partH h k)[o.at_.toNat + 1 + j]? = some 0 := by
        rw [List.getElem?_eq_getElem hlt]
        refine congrArg some (hz _ ?_)
        rw [List.mem_iff_getElem?]
        refine ⟨j, ?_⟩
        rw [List.getElem?_take, if_pos (by omega), List.getElem?_drop, List.getElem?_eq_getElem hlt]
      have hgo : ∀ a b, goesR h p 0 a b = true := fun a b => by simp [goesR]
      unfold ptrOk
      simp [hw, hgo]
section
variable {h : Hp} {s : Ck} {p : Pts}
theorem Found.ptrs (hf : Found h s p) (hr : rightL (layH h) = true) (hp : partsR h = some p) : (settledR s && (unscannedR s && leftR s)) = (h.roots.all (fun w => goesR h p w 1 2) && ptrsR h p 1 && ptrsR h p 2 && ptrsR h p 3 && ptrsR h p 4) := by
  have hpt := hf.points hr hp
  have hroots : s.h.roots.all (fun w => pointsR s w 1 2) = h.roots.all (fun w => goesR h p w 1 2) := by
    rw [hf.hp]
    congr 1
    funext w
    exact (hpt w).1
  have hob := fun k => hf.obs (k := k)
  have hpk : ∀ (k : Int) (q : Nat → Int → Bool) (hk : 1 ≤ k ∧ k ≤ 4), (∀ a, ptrOk h p k a = q a (wordAt (partH h k) a)) → (ptrsR h p k = true ↔ ∀ o ∈ p.at k, o.gone = false → ∀ j, j < o.ptrs.toNat → q (o.at_.toNat + 1 + j) (wordAt (partH h k) (o.at_.toNat + 1 + j)) = true) := by
    intro k q hk hq
    rw [ptrsR_iff hp hk]
    simp only [hq]
  have p2 := hpk 2 (fun _ w => goesR h p w 1 2) (by omega) (fun a => by simp [ptrOk, wordAt])
  have p3 := hpk 3 (fun _ w => goesR h p w 3 4) (by omega) (fun a => by simp [ptrOk, wordAt])
  have p4 := hpk 4 (fun _ w => goesR h p w 3 4) (by omega) (fun a => by simp [ptrOk, wordAt])
  have p1 := hpk 1 (fun a w => if h.scan ≤ a then goesR h p w 1 2 || goesR h p w 3 4 else goesR h p w 1 2) (by omega) (fun a => by simp [ptrOk, wordAt])
  have q2 : ptrsQ s 2 (fun _ w => pointsR s w 1 2) = true ↔ ptrsR h p 2 = true := by
    rw [p2, ptrsQ_iff, hob, hf.hp]
    simp only [(hpt _).1]
  have q3 : ptrsQ s 3 (fun _ w => pointsR s w 3 4) = true ↔ ptrsR h p 3 = true := by
    rw [p3, ptrsQ_iff, hob, hf.hp]
    simp only [(hpt _).2.1]
  have q4 : ptrsQ s 4 (fun _ w => pointsR s w 3 4) = true ↔ ptrsR h p 4 = true := by
    rw [p4, ptrsQ_iff, hob, hf.hp]
    simp only [(hpt _).2.1]
  have q1 : (ptrsQ s 1 (fun a w => decide (s.h.scan ≤ a) || pointsR s w 1 2) = true ∧ ptrsQ s 1 (fun a w => decide (a < s.h.scan) || pointsR s w 1 4) = true) ↔ ptrsR h p 1 = true := by
    rw [p1, ptrsQ_iff, ptrsQ_iff, hob, hf.hp]
    simp only [(hpt _).1, (hpt _).2.2]
    constructor
    · rintro ⟨ha, hb⟩ o ho hg j hj
      have ha := ha o ho hg j hj
      have hb := hb o ho hg j hj
      generalize o.at_.toNat + 1 + j = n at *
      by_cases hs : h.scan ≤ (n : Int)
      · have : ¬ (n : Int) < h.scan := by omega
        simpa [hs, this] using hb
      · simpa [hs] using ha
    · intro hx
      refine ⟨fun o ho hg j hj => ?_, fun o ho hg j hj => ?_⟩
      · have hx := hx o ho hg j hj
        generalize o.at_.toNat + 1 + j = n at *
        by_cases hs : h.scan ≤ (n : Int)
        · simp [hs]
        · simpa [hs] using hx
      · have hx := hx o ho hg j hj
        generalize o.at_.toNat + 1 + j = n at *
        by_cases hs : h.scan ≤ (n : Int)
        · have : ¬ (n : Int) < h.scan := by omega
          simpa [hs, this] using hx
        · have : (n : Int) < h.scan := by omega
          simp [this]
  unfold settledR unscannedR leftR
  rw [hroots, Bool.eq_iff_iff]
  simp only [Bool.and_eq_true]
  rw [q2, q3, q4, ← q1]
  constructor
  · rintro ⟨⟨a, b, c⟩, d, e, f⟩; exact ⟨⟨⟨⟨a, c, d⟩, b⟩, e⟩, f⟩
  · rintro ⟨⟨⟨⟨a, c, d⟩, b⟩, e⟩, f⟩; exact ⟨⟨a, b, c⟩, d, e, f⟩
theorem Found.roomy (hf : Found h s p) : roomyR s = decide ((h.low.length : Int) + h.high.length + waitR p ≤ h.cap) := by
  unfold roomyR waitC waitR
  rw [hf.hp, hf.o3, hf.o4]
end
theorem num_is (h : Hp) : numR h = (boundedR (initCk h) && restingR (initCk h)) := by
  unfold numR boundedR restingR initCk
  simp only
  cases rightL (layH h)
  · simp
  by_cases h1 : h.roots.length ≤ 16 <;> by_cases h2 : 0 ≤ h.scan <;> by_cases h3 : h.scan ≤ h.low.length <;> cases hc : h.cycle <;> simp [h1, h2, h3]
  by_cases h4 : h.scan = h.low.length <;> by_cases h5 : h.old = [] <;> by_cases h6 : h.far = [] <;> simp [h4, h5, h6]
theorem look_right (h : Hp) : (lookR h).isSome = rightR h ∧ ∀ s, lookR h = some s → ∃ p, partsR h = some p ∧ Found h s p := by
  have hl : lookR h = (if boundedR (initCk h) = true then if restingR (initCk h) = true then if (walkedR (initCk h)).1 = true then
      if copiedCR (walkedR (initCk h)).2 = true then if settledR (walkedR (initCk h)).2 = true then if unscannedR (walkedR (initCk h)).2 = true then if leftR (walkedR (initCk h)).2 = true then if roomyR (walkedR (initCk h)).2 = true then
        some (walkedR (initCk h)).2 else none else none else none else none else none else none else none else none) := rfl
  have hn := num_is h
  unfold rightR
  rw [hn]
  cases hb : boundedR (initCk h)
  · rw [hb] at hl; rw [hl]; simp
  have hr : rightL (layH h) = true := by
    unfold boundedR at hb
    simp only [Bool.and_eq_true] at hb
    exact hb.1
  cases hre : restingR (initCk h)
  · rw [hb, hre] at hl; rw [hl]; simp
  have hw := walked_parts hr
  cases hp : partsR h with
  | none =>
    rw [hp] at hw
    simp only at hw
    rw [hb, hre, hw] at hl
    rw [hl]; simp
  | some p =>
    rw [hp] at hw
    obtain ⟨h1, hf⟩ := hw
    rw [hb, hre, h1] at hl
    simp only [if_true] at hl
    generalize (walkedR (initCk h)).2 = s at *
    have e1 := hf.copied hr hp
    have e2 := hf.ptrs hr hp
    have e3 := hf.roomy
    have e4 : rightP h p = (copiedCR s && ((settledR s && (unscannedR s && leftR s)) && roomyR s)) := by
      rw [e1, e2, e3]
      unfold rightP
      simp only [Bool.and_assoc]
    simp only [Bool.true_and]
    rw [e4]
    cases c1 : copiedCR s
    · rw [c1] at hl; rw [hl]; simp
    cases c2 : settledR s
    · rw [c1, c2] at hl; rw [hl]; simp
    cases c3 : unscannedR s
    · rw [c1, c2, c3] at hl; rw [hl]; simp
    cases c4 : leftR s
    · rw [c1, c2, c3, c4] at hl; rw [hl]; simp
    cases c5 : roomyR s
    · rw [c1, c2, c3, c4, c5] at hl; rw [hl]; simp
    rw [c1, c2, c3, c4, c5] at hl
    simp only [if_true] at hl
    rw [hl]
    refine ⟨rfl, fun q hq => ⟨p, rfl, ?_⟩⟩
    cases hq
    exact hf
theorem look_objs (h : Hp) (k : Int) : objsC h k = objsR h k := by
  obtain ⟨h1, h2⟩ := look_right h
  unfold objsC objsR
  cases hl : lookR h with
  | none =>
    rw [hl] at h1
    have h1' : rightR h = false := h1.symm
    simp [h1']
  | some s =>
    rw [hl] at h1
    have h1' : rightR h = true := h1.symm
    obtain ⟨p, hp, hf⟩ := h2 s hl
    simp only [h1', true_and, hp, Option.getD_some, hf.obs]
theorem look_wait (h : Hp) : ((waitCR h : Nat) : Int) = waitH h := by
  obtain ⟨h1, h2⟩ := look_right h
  unfold waitCR waitH
  cases hl : lookR h with
  | none =>
    rw [hl] at h1
    have h1' : rightR h = false := h1.symm
    simp [h1']
  | some s =>
    rw [hl] at h1
    have h1' : rightR h = true := h1.symm
    obtain ⟨p, hp, hf⟩ := h2 s hl
    simp only [h1', hp, Option.getD_some, if_true]
    unfold waitC waitR
    rw [hf.o3, hf.o4]
end Vm
