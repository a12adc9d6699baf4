/-
  Two pointers, forwarded in either order.
-/
import Derived.Test.YtfplljcicihneaaPc
namespace Vm
open Go Go.Proofs
set_option linter.unusedSimpArgs false
set_option linter.unusedVariables false
set_option maxRecDepth 100000
/-- 0, or the pointer to an object -/
inductive Wd (h : Hp) (p : Pts) : Int → Prop where
  | null : Wd h p 0
  | obj (k : Int) (o : Ob) : 1 ≤ k ∧ k ≤ 4 → o ∈ p.at k → Wd h p (refR (layH h) k o.at_)
theorem Wd.kd {h : Hp} {p : Pts} (r : RightH h p) {w : Int} (hw : Wd h p w) : Kd h w := by
  cases hw with
  | null => exact .null
  | obj k o hk ho => exact obj_kd r hk ho
/-- nothing is copied, and this is told -/
inductive Stat (g : Hp) : Int → Int → Prop where
  | null : Stat g 0 0
  | here (k : Int) (a : Nat) : 1 ≤ k ∧ k ≤ 2 → a < (partH g k).length → Stat g (refR (layH g) k a) (refR (layH g) k a)
  | gone (k : Int) (a b : Nat) : 3 ≤ k ∧ k ≤ 4 → (partH g k)[a]? = some (refR (layH g) 1 b) → b < g.low.length → Stat g (refR (layH g) k a) (refR (layH g) 1 b)
theorem Stat.fwd {g : Hp} (hr : rightL (layH g) = true) {v x : Int} (h : Stat g v x) : fwd g v = (x, g, 0) := by
  cases h with
  | null => exact fwd_null hr
  | here k a hk ha => exact fwd_here hr hk ⟨by omega, by omega⟩
  | gone k a b hk ha hb => exact fwd_gone hr hk ha (adr_ref0 hr (by omega))
theorem Stat.behind {g : Hp} {v x : Int} (h : Stat g v x) {k : Int} (hk : 3 ≤ k ∧ k ≤ 4) {a n : Nat} (hl : a + n ≤ (partH g k).length) (hn : 0 < n) (ha : Aside g k a n v) : Stat (movH g k a n) v x := by
  have e1 := refR_movH hk hl
  have hlow := movH_low hk hl
  cases h with
  | null => exact .null
  | here j b hj hb =>
    rw [← e1]
    refine .here j b hj ?_
    have : j = 1 ∨ j = 2 := by omega
    rcases this with rfl | rfl
    · simp only [partH1] at hb ⊢; omega
    · simp only [partH2] at hb ⊢; rw [hlow.2]; exact hb
  | gone j b c hj hb hc =>
    have h1 := ha.pos j b hj rfl (List.getElem?_eq_some_iff.1 hb).1
    rw [← e1] at hb ⊢
    rw [← e1]
    exact .gone j b c hj (by rw [movH_word hk hn hj h1]; exact hb) (by omega)
/-- an object that waits -/
structure Wt (g : Hp) (k : Int) (a n : Nat) (v : Int) : Prop where
  part : 3 ≤ k ∧ k ≤ 4
  ref : v = refR (layH g) k a
  word : ∃ u pt, (partH g k)[a]? = some u ∧ ¬ (adr u).2 = 0 ∧ unpk u = ((n : Int), pt, 0)
  len : a + (n + 1) ≤ (partH g k).length
  room : ((n + 1 : Nat) : Int) ≤ roomL (layH g)
theorem Wt.fwd {g : Hp} (hr : rightL (layH g) = true) {k : Int} {a n : Nat} {v : Int} (h : Wt g k a n v) : fwd g v = (refR (layH g) 1 g.low.length, movH g k a (n + 1), 0) := by
  obtain ⟨u, pt, hu, h0, hun⟩ := h.word
  rw [h.ref]
  exact fwd_wait hr h.part hu h0 hun h.len h.room
theorem Kd.split {g : Hp} {v : Int} (h : Kd g v) : (∃ x, Stat g v x) ∨ ∃ k a n, Wt g k a n v := by
  cases h with
  | null => exact .inl ⟨_, .null⟩
  | here k a hk ha => exact .inl ⟨_, .here k a hk ha⟩
  | gone k a b hk ha hb => exact .inl ⟨_, .gone k a b hk ha hb⟩
  | wait k a n u pt hk hu h0 hun hl hm => exact .inr ⟨k, a, n, hk, rfl, ⟨u, pt, hu, h0, hun⟩, hl, hm⟩
theorem Wt.behind {g : Hp} (hr : rightL (layH g) = true) {k j : Int} {a n b m : Nat} {v w : Int} (h : Wt g k a n w) (q : Wt g j b m v) (ha : Aside g k a (n + 1) v) : Wt (movH g k a (n + 1)) j b m v := by
  obtain ⟨u, pt, hu, h0, hun⟩ := q.word
  have e1 := refR_movH h.part h.len
  have h1 := ha.pos j b q.part q.ref (by have := q.len; omega)
  have h2 := ha.room j b m u pt q.part q.ref hu h0 hun
  have h3 := movH_room hr h.part h.len h.room
  exact ⟨q.part, by rw [e1]; exact q.ref, ⟨u, pt, by rw [movH_word h.part (by omega) q.part h1]; exact hu, h0, hun⟩, by rw [movH_len h.part q.part]; exact q.len, by rw [h3]; omega⟩
/-- what waits is one of the objects -/
theorem Wd.aside {h : Hp} {p : Pts} (r : RightH h p) {w v : Int} (hw : Wd h p w) (hv : Wd h p v) {k : Int} {a n : Nat} (ht : Wt h k a n w) (hn : w ≠ v) : Aside h k a (n + 1) v := by
  cases hw with
  | null => exact (refR_ne r.lay (by omega) ht.ref.symm).elim
  | obj j o hj ho =>
    obtain ⟨b, m, hb, hm, hbl, _⟩ := obj_at r hj ho
    have hl := ht.len
    have e := ht.ref
    rw [hb] at e
    obtain ⟨e1, e2⟩ := refR_inj r.lay hj (by have := ht.part; omega) (by rw [sizL_layH hj]; omega) (by rw [sizL_layH (by have := ht.part; omega)]; omega) e
    subst e1
    have e3 : b = a := by omega
    subst e3
    obtain ⟨u, pt, hu, h0, hun⟩ := ht.word
    obtain ⟨u', hu', hc⟩ := (Tiles.stands (r.tiles hj) o ho).1.word
    rw [hb, Int.toNat_natCast, hu] at hu'
    cases hu'
    by_cases hg : o.gone = true
    · rw [if_pos hg] at hc
      exact (h0 hc.2.1).elim
    rw [if_neg hg, hun] at hc
    have e4 : o.size = n := by have := hc.2.1; simp only [Prod.mk.injEq] at this; omega
    cases hv with
    | null => exact ⟨fun j' b' hj' he => (refR_ne r.lay (by omega) he.symm).elim, fun j' b' _ _ _ hj' he => (refR_ne r.lay (by omega) he.symm).elim⟩
    | obj i q hi hq =>
      refine obj_aside r ht.part hi ho hq (fun e => hn ?_) (by simpa using hg) hb e4
      rw [e.1, e.2]
theorem again_two {h : Hp} {p : Pts} (r : RightH h p) {w v : Int} (hw : Wd h p w) (hv : Wd h p v) :
    (fwd (fwd h w).2.1 v).2.2 = 0 ∧ (fwd h v).2.2 = 0 ∧ (fwd (fwd h v).2.1 w).2.2 = 0 ∧ (fwd h v).2.1.low.length ≤ (fwd (fwd h w).2.1 v).2.1.low.length ∧ ((fwd (fwd h w).2.1 v).1 = (fwd h w).1 ↔ (fwd (fwd h v).2.1 w).1 = (fwd h v).1) := by
  have hr := r.lay
  by_cases hwv : w = v
  · subst hwv
    obtain ⟨h1, h2, h3, h4⟩ := (hw.kd r).again hr
    simp [h1, h3]
  rcases (hw.kd r).split with ⟨x, hx⟩ | ⟨k, a, n, ht⟩
  · rcases (hv.kd r).split with ⟨y, hy⟩ | ⟨j, b, m, hs⟩
    · simp [hx.fwd hr, hy.fwd hr, eq_comm]
    · have ha := Wd.aside r hv hw hs (Ne.symm hwv)
      have h2 := (hx.behind hs.part hs.len (by omega) ha).fwd (movH_right hr hs.part hs.len hs.room)
      simp [hx.fwd hr, hs.fwd hr, h2, eq_comm]
  · have ha := Wd.aside r hw hv ht hwv
    have hr1 := movH_right hr ht.part ht.len ht.room
    rcases (hv.kd r).split with ⟨y, hy⟩ | ⟨j, b, m, hs⟩
    · have h2 := (hy.behind ht.part ht.len (by omega) ha).fwd hr1
      have := (movH_low ht.part ht.len).1
      simp [hy.fwd hr, ht.fwd hr, h2, eq_comm]
      omega
    · have hb := Wd.aside r hv hw hs (Ne.symm hwv)
      have hr2 := movH_right hr hs.part hs.len hs.room
      have h1 := ht.fwd hr
      have h2 := hs.fwd hr
      have q1 := ht.behind hr hs ha
      have q2 := hs.behind hr ht hb
      have h3 := q1.fwd hr1
      have h4 := q2.fwd hr2
      have l1 := (movH_low ht.part ht.len).1
      have l2 := (movH_low hs.part hs.len).1
      have l3 := (movH_low q1.part q1.len).1
      rw [refR_movH ht.part ht.len] at h3
      rw [refR_movH hs.part hs.len] at h4
      simp only [h1, h2, h3, h4, true_and]
      refine ⟨by omega, ?_⟩
      unfold refR
      constructor <;> intro e <;> omega
/-- what Pointer tells is 0, or the pointer to an object -/
theorem ptrR_wd {h : Hp} {p : Pts} (r : RightH h p) {k c : Int} (hk : 1 ≤ k ∧ k ≤ 4) : Wd h p (ptrR h k c) := by
  unfold ptrR
  split
  · exact .null
  · rename_i hne
    have hr : rightR h = true := by unfold rightR; rw [r.num, r.parts]; simpa using r.ok
    have e : (objsR h k).1 = p.at k := by unfold objsR; rw [if_pos ⟨hr, hk⟩, r.parts]; rfl
    rw [e] at hne ⊢
    have hpos : 0 < (p.at k).length := List.length_pos_iff.2 hne
    have hpk := pick_lt (c := c) (n := ((p.at k).length : Int)) (by omega)
    obtain ⟨i, hi⟩ := Int.eq_ofNat_of_zero_le hpk.1
    rw [hi, Int.toNat_natCast]
    have hil : i < (p.at k).length := by omega
    have hx : (p.at k).getD i default = (p.at k)[i] := by simp [List.getD, hil]
    rw [hx]
    have hmem := List.getElem_mem hil
    obtain ⟨a, n, ha, _, hl, _⟩ := obj_at r hk hmem
    have := addr_in r.lay hk (a := (p.at k)[i].at_) (by rw [ha, sizL_layH hk]; omega)
    rw [this]
    exact .obj k _ hk hmem
theorem ptrR_not {h : Hp} (hr : rightR h = false) (k c : Int) : ptrR h k c = 0 := by
  unfold ptrR objsR
  simp [hr]
/-- of a heap whose layout is right, and two pointers -/
theorem again_ptrs {h : Hp} (hl : rightL (layH h) = true) {k j c d : Int} (hk : 1 ≤ k ∧ k ≤ 4) (hj : 1 ≤ j ∧ j ≤ 4) :
    ((fwd h (ptrR h k c)).2.2 = 0 ∧ fwd (fwd h (ptrR h k c)).2.1 (ptrR h k c) = ((fwd h (ptrR h k c)).1, (fwd h (ptrR h k c)).2.1, 0) ∧ fwd (fwd h (ptrR h k c)).2.1 (fwd h (ptrR h k c)).1 = ((fwd h (ptrR h k c)).1, (fwd h (ptrR h k c)).2.1, 0)) ∧
    (fwd (fwd h (ptrR h k c)).2.1 (ptrR h j d)).2.2 = 0 ∧ (fwd h (ptrR h j d)).2.2 = 0 ∧ (fwd (fwd h (ptrR h j d)).2.1 (ptrR h k c)).2.2 = 0 ∧ (fwd h (ptrR h j d)).2.1.low.length ≤ (fwd (fwd h (ptrR h k c)).2.1 (ptrR h j d)).2.1.low.length ∧
    ((fwd (fwd h (ptrR h k c)).2.1 (ptrR h j d)).1 = (fwd h (ptrR h k c)).1 ↔ (fwd (fwd h (ptrR h j d)).2.1 (ptrR h k c)).1 = (fwd h (ptrR h j d)).1) := by
  cases hr : rightR h
  · rw [ptrR_not hr, ptrR_not hr]
    simp [fwd_null hl]
  · obtain ⟨p, r⟩ := rightH_of hr
    have h1 := ((ptrR_wd r hk (c := c)).kd r).again hl
    exact ⟨⟨h1.1, h1.2.2.1, h1.2.2.2⟩, again_two r (ptrR_wd r hk) (ptrR_wd r hj)⟩
end Vm
