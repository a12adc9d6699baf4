/-
  Pointers to the objects of a right heap, as Forward meets them.
-/
import Derived.Test.YtfplljcicihneaaPb
namespace Vm
open Go Go.Proofs
set_option linter.unusedSimpArgs false
set_option linter.unusedVariables false
set_option maxRecDepth 100000
theorem shapesR_pre {h : Hp} {ws : List Int} {low : List Ob} : ∀ (f i : Nat) (acc l : List (Int × Int)), shapesR h ws low f i acc = some l → ∃ r, l = acc ++ r
  | 0, _, _, _, he => by simp [shapesR] at he
  | f + 1, i, acc, l, he => by
    unfold shapesR at he
    split at he
    · cases he; exact ⟨[], by simp⟩
    · split at he
      · split at he
        · cases he
        · obtain ⟨r, hr⟩ := shapesR_pre f _ _ _ he
          exact ⟨_, by rw [hr, List.append_assoc]⟩
      · split at he
        · exact shapesR_pre f _ _ _ he
        · cases he
/-- the objects that are gone are gone to objects of Low -/
theorem shapes_walk {h : Hp} {ws : List Int} {low : List Ob} : ∀ (f i : Nat) (acc shs : List (Int × Int)), shapesR h ws low f i acc = some shs → ∀ (f' : Nat) (acc' l : List Ob), walkR ws shs true f' i acc.length acc' = (l, 0) →
    ∃ r, l = acc' ++ r ∧ ∀ o ∈ r, o.gone = true → ∃ q, atR h 1 low o.target = some q ∧ q.size = o.size ∧ q.ptrs = o.ptrs
  | 0, _, _, _, he => by simp [shapesR] at he
  | f + 1, i, acc, shs, he => by
    intro f' acc' l hw
    cases f' with
    | zero => simp [walkR] at hw
    | succ f' =>
      unfold shapesR at he
      unfold walkR at hw
      cases hwi : ws[i]? with
      | none =>
        simp only [hwi] at hw
        split at hw
        · simp at hw
        · simp only [Prod.mk.injEq, and_true] at hw
          exact ⟨[], by simp [hw], by simp⟩
      | some w =>
        simp only [hwi] at he hw
        by_cases ha : (adr w).2 = 0
        · simp only [ha, if_true] at he
          cases hq : atR h 1 low (adr w).1 with
          | none => simp only [hq] at he; cases he
          | some q =>
            simp only [hq] at he
            obtain ⟨r, hr⟩ := shapesR_pre _ _ _ _ he
            have hs : shs[acc.length]? = some (q.size, q.ptrs) := by rw [hr]; simp
            unfold objR at hw
            rw [if_pos ⟨rfl, ha⟩] at hw
            simp only [hs] at hw
            by_cases hsh : shapeOk q.size q.ptrs = true
            · rw [if_pos hsh] at hw
              simp only at hw
              split at hw
              · simp at hw
              split at hw
              · simp at hw
              have hlen : acc.length + 1 = (acc ++ [(q.size, q.ptrs)]).length := by simp
              rw [hlen] at hw
              obtain ⟨r', h1, h2⟩ := shapes_walk f _ _ _ he _ _ _ hw
              refine ⟨_ :: r', by rw [h1, List.append_assoc]; rfl, ?_⟩
              intro o ho hg
              rcases List.mem_cons.1 ho with rfl | ho
              · exact ⟨q, hq, rfl, rfl⟩
              · exact h2 o ho hg
            · rw [if_neg hsh] at hw
              simp at hw
        · simp only [ha, if_false] at he
          by_cases hu : (unpk w).2.2 = 0
          · simp only [hu, if_true] at he
            unfold objR at hw
            rw [if_neg (fun hc => ha hc.2), if_pos hu] at hw
            simp only at hw
            split at hw
            · simp at hw
            split at hw
            · simp at hw
            obtain ⟨r', h1, h2⟩ := shapes_walk f _ _ _ he _ _ _ hw
            refine ⟨_ :: r', by rw [h1, List.append_assoc]; rfl, ?_⟩
            intro o ho hg
            rcases List.mem_cons.1 ho with rfl | ho
            · simp at hg
            · exact h2 o ho hg
          · simp only [hu, if_false] at he
            cases he
theorem RightH.gone_low {h : Hp} {p : Pts} (r : RightH h p) {k : Int} (hk : 3 ≤ k ∧ k ≤ 4) {o : Ob} (ho : o ∈ p.at k) (hg : o.gone = true) : ∃ q ∈ p.low, startR h 1 q.at_ = o.target ∧ q.size = o.size ∧ q.ptrs = o.ptrs := by
  have h1 := r.parts
  unfold partsR at h1
  dsimp only at h1
  split at h1
  · cases h1
  split at h1
  · cases h1
  rename_i c2
  have aux : ∀ (ws : List Int) (x : Option (List (Int × Int))), x = shapesW h ws (walkW h.low [] false).1 → ¬ x = none → (walkW ws (x.getD []) true).2 = 0 → o ∈ (walkW ws (x.getD []) true).1 →
      ∃ q ∈ (walkW h.low [] false).1, startR h 1 q.at_ = o.target ∧ q.size = o.size ∧ q.ptrs = o.ptrs := by
    intro ws x hx hn h0 ho
    cases x with
    | none => exact (hn rfl).elim
    | some shs =>
      simp only [Option.getD_some] at h0 ho
      obtain ⟨r', e1, e2⟩ := shapes_walk _ _ _ _ hx.symm (ws.length + 1) [] (walkW ws shs true).1 (Prod.ext rfl h0)
      simp only [List.nil_append] at e1
      rw [e1] at ho
      obtain ⟨q, hq, hs⟩ := e2 o ho hg
      have := List.find?_some hq
      exact ⟨q, atR_in hq, by simpa using this, hs⟩
  have e3 : ¬ shapesW h h.old (walkW h.low [] false).1 = none := fun e => c2 (.inl e)
  have e4 : ¬ shapesW h h.far (walkW h.low [] false).1 = none := fun e => c2 (.inr (.inl e))
  have e5 : (walkW h.old ((shapesW h h.old (walkW h.low [] false).1).getD []) true).2 = 0 := Decidable.byContradiction fun e => c2 (.inr (.inr (.inl e)))
  have e6 : (walkW h.far ((shapesW h h.far (walkW h.low [] false).1).getD []) true).2 = 0 := Decidable.byContradiction fun e => c2 (.inr (.inr (.inr e)))
  cases h1
  have : k = 3 ∨ k = 4 := by omega
  rcases this with rfl | rfl
  · exact aux _ _ rfl e3 e5 (by simpa using ho)
  · exact aux _ _ rfl e4 e6 (by simpa using ho)
theorem wtL_mem {l : List Ob} {o : Ob} (h : o ∈ l) : wtO o ≤ wtL l := by
  unfold wtL
  induction l with
  | nil => simp at h
  | cons x l ih =>
    simp only [List.map_cons, List.sum_cons]
    rcases List.mem_cons.1 h with rfl | h
    · omega
    · have := ih h; omega
theorem wtL_two {l : List Ob} {o q : Ob} (h : o ∈ l) (k : q ∈ l) (hn : o ≠ q) : wtO o + wtO q ≤ wtL l := by
  unfold wtL
  induction l with
  | nil => simp at h
  | cons x l ih =>
    simp only [List.map_cons, List.sum_cons]
    rcases List.mem_cons.1 h with rfl | h2
    · rcases List.mem_cons.1 k with rfl | k
      · exact (hn rfl).elim
      · have := wtL_mem k; unfold wtL at this; omega
    · rcases List.mem_cons.1 k with e | k
      · have h3 := wtL_mem (by assumption : o ∈ l)
        unfold wtL at h3
        rw [e]
        omega
      · have := ih (by assumption) k; omega
theorem waitR_mem {p : Pts} {k : Int} (hk : 3 ≤ k ∧ k ≤ 4) {o : Ob} (h : o ∈ p.at k) : wtO o ≤ waitR p := by
  have : k = 3 ∨ k = 4 := by omega
  unfold waitR
  rcases this with rfl | rfl
  · have := wtL_mem (l := p.old) h; omega
  · have := wtL_mem (l := p.far) h; omega
theorem waitR_two {p : Pts} {k j : Int} (hk : 3 ≤ k ∧ k ≤ 4) (hj : 3 ≤ j ∧ j ≤ 4) {o q : Ob} (h : o ∈ p.at k) (h' : q ∈ p.at j) (hn : ¬ (k = j ∧ o = q)) : wtO o + wtO q ≤ waitR p := by
  have e1 : k = 3 ∨ k = 4 := by omega
  have e2 : j = 3 ∨ j = 4 := by omega
  unfold waitR
  rcases e1 with rfl | rfl <;> rcases e2 with rfl | rfl
  · have := wtL_two (l := p.old) h h' (fun e => hn ⟨rfl, e⟩); omega
  · have := wtL_mem (l := p.old) h; have := wtL_mem (l := p.far) h'; omega
  · have := wtL_mem (l := p.far) h; have := wtL_mem (l := p.old) h'; omega
  · have := wtL_two (l := p.far) h h' (fun e => hn ⟨rfl, e⟩); omega
theorem refR_inj {l : Ly} (hr : rightL l = true) {k j a b : Int} (hk : 1 ≤ k ∧ k ≤ 4) (hj : 1 ≤ j ∧ j ≤ 4) (ha : 0 ≤ a ∧ a < sizL l k) (hb : 0 ≤ b ∧ b < sizL l j) (h : refR l k a = refR l j b) : k = j ∧ a = b := by
  have h1 := find_in hr hk ha
  have h2 := find_in hr hj hb
  have : fstL l k + a = fstL l j + b := by unfold refR at h; omega
  rw [this, h2] at h1
  simp only [Prod.mk.injEq, and_true] at h1
  omega
/-- a pointer's word is known by its address -/
theorem word_of {u a : Int} (h0 : (adr u).2 = 0) (h : (adr u).1 = a) : u = 2 * a + 1 := by
  unfold adr at h0 h
  by_cases c1 : u = 0
  · simp [c1] at h0
  rw [if_neg c1] at h0 h
  by_cases c2 : u % 2 = 0 ∨ u = 1
  · rw [if_pos c2] at h0; simp at h0
  rw [if_neg c2] at h
  simp only at h
  omega
theorem adr_unpk {u : Int} (h : (unpk u).2.2 = 0) : ¬ (adr u).2 = 0 := by
  unfold unpk at h
  split at h
  · rename_i hc
    unfold adr
    split
    · simp
    rw [if_pos (.inl hc.1)]; simp
  · simp at h
theorem obj_at {h : Hp} {p : Pts} (r : RightH h p) {k : Int} (hk : 1 ≤ k ∧ k ≤ 4) {o : Ob} (ho : o ∈ p.at k) : ∃ a n : Nat, o.at_ = a ∧ o.size = n ∧ a + (n + 1) ≤ (partH h k).length ∧ n ≤ 255 := by
  have hs := (Tiles.stands (r.tiles hk) o ho).1
  have h1 := shapeOk_iff.1 hs.shape
  obtain ⟨a, ha⟩ := Int.eq_ofNat_of_zero_le hs.nat
  obtain ⟨n, hn⟩ := Int.eq_ofNat_of_zero_le h1.1
  have := hs.fits
  exact ⟨a, n, ha, hn, by omega, by omega⟩
theorem obj_kd {h : Hp} {p : Pts} (r : RightH h p) {k : Int} (hk : 1 ≤ k ∧ k ≤ 4) {o : Ob} (ho : o ∈ p.at k) : Kd h (refR (layH h) k o.at_) := by
  have hs := (Tiles.stands (r.tiles hk) o ho).1
  obtain ⟨a, n, ha, hn, hl, hn5⟩ := obj_at r hk ho
  by_cases h2 : k ≤ 2
  · rw [ha]; exact .here k a ⟨hk.1, h2⟩ (by omega)
  have hk3 : 3 ≤ k ∧ k ≤ 4 := by omega
  obtain ⟨u, hu, hc⟩ := hs.word
  rw [ha, Int.toNat_natCast] at hu
  by_cases hg : o.gone = true
  · rw [if_pos hg] at hc
    obtain ⟨q, hq, hst, _⟩ := r.gone_low hk3 ho hg
    obtain ⟨b, m, hb, hm, hbl, _⟩ := obj_at r (k := 1) (by omega) hq
    have e1 : startR h 1 q.at_ = fstL (layH h) 1 + b := by
      unfold startR
      rw [hb, addr_in r.lay (by omega) (by rw [sizL_layH (by omega)]; omega)]
    have e2 : u = refR (layH h) 1 b := by
      have := word_of hc.2.1 (hc.2.2.symm.trans (hst.symm.trans e1))
      rw [this]; rfl
    rw [ha]
    subst e2
    exact .gone k a b hk3 hu (by simpa using (show b < (partH h 1).length by omega))
  · rw [if_neg hg] at hc
    have hrm := r.room
    have hw := waitR_mem hk3 ho
    unfold wtO at hw
    rw [if_neg hg, hn] at hw
    have e : roomL (layH h) = h.cap - h.low.length - h.high.length := by unfold roomL; rw [if_pos r.lay]; rfl
    rw [ha]
    exact .wait k a n u o.ptrs hk3 hu (hc.1 (by simp; omega)) (by rw [hc.2.1, hn]) hl (by rw [e]; simp at hw; omega)
theorem obj_aside {h : Hp} {p : Pts} (r : RightH h p) {k j : Int} (hk : 3 ≤ k ∧ k ≤ 4) (hj : 1 ≤ j ∧ j ≤ 4) {o q : Ob} (ho : o ∈ p.at k) (hq : q ∈ p.at j) (hn : ¬ (k = j ∧ o = q)) (hg : o.gone = false) {a n : Nat} (ha : o.at_ = a) (hs : o.size = n) :
    Aside h k a (n + 1) (refR (layH h) j q.at_) := by
  obtain ⟨b, m, hb, hm, hbl, _⟩ := obj_at r hj hq
  have key : ∀ (j' : Int) (b' : Nat), 3 ≤ j' ∧ j' ≤ 4 → refR (layH h) j q.at_ = refR (layH h) j' b' → b' < (partH h j').length → j = j' ∧ (b : Int) = b' := by
    intro j' b' hj' he hb'
    rw [hb] at he
    exact refR_inj r.lay hj (by omega) (by rw [sizL_layH hj]; omega) (by rw [sizL_layH (by omega)]; omega) he
  refine ⟨fun j' b' hj' he hb' => ?_, fun j' b' m' u pt hj' he hu h0 hun => ?_⟩
  · obtain ⟨e1, e2⟩ := key j' b' hj' he hb'
    subst e1
    by_cases hjk : j = k
    · subst hjk
      rcases Tiles.apart (r.tiles (by omega)) o ho q hq with e | e | e
      · exact (hn ⟨rfl, e⟩).elim
      · omega
      · omega
    · exact .inl hjk
  · have hb' := (List.getElem?_eq_some_iff.1 hu).1
    obtain ⟨e1, e2⟩ := key j' b' hj' he hb'
    subst e1
    have hsq := (Tiles.stands (r.tiles hj) q hq).1
    obtain ⟨u', hu', hc⟩ := hsq.word
    have e3 : b' = b := by omega
    subst e3
    rw [hb, Int.toNat_natCast, hu] at hu'
    cases hu'
    by_cases hgq : q.gone = true
    · rw [if_pos hgq] at hc
      exact (h0 hc.2.1).elim
    · rw [if_neg hgq, hun] at hc
      have e4 : (m' : Int) = m := by have := hc.2.1; simp only [Prod.mk.injEq] at this; omega
      have hw := waitR_two hk hj' ho hq hn
      unfold wtO at hw
      rw [if_neg (by simp [hg]), if_neg hgq, hs, hm] at hw
      have hrm := r.room
      have e : roomL (layH h) = h.cap - h.low.length - h.high.length := by unfold roomL; rw [if_pos r.lay]; rfl
      rw [e]
      simp at hw
      omega
end Vm
