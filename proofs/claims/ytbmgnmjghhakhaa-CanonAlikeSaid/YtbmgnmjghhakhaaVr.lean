/-
  A region, in every order that its edges let.
-/
import Derived.Test.YtbmgnmjghhakhaaVq
namespace Vm
open Go
open Go.RowKit (Below)
set_option linter.unusedSimpArgs false
set_option linter.unusedVariables false

/-- the kinds when those of L have run -/
def gL : List XS → Nat → (Nat → Bool) → Gam → Gam
  | [], _, _, g => g
  | x :: xs, k, L, g => gL xs (k + 1) L (if L k then x.os.d ++ g else g)
def gAll (xs : List XS) (g : Gam) : Gam := xs.foldl (fun g x => x.os.d ++ g) g

theorem gL_congr {t : Nat} : ∀ {xs : List XS} {k : Nat} {L L' : Nat → Bool} {g g' : Gam}, (∀ (i : Nat) (x : XS), xs[i]? = some x → t ∈ domOf x.os.d → L (k + i) = L' (k + i)) → g.at t = g'.at t → (gL xs k L g).at t = (gL xs k L' g').at t
  | [], _, _, _, _, _, _, hg => hg
  | x :: xs, k, L, L', g, g', hx, hg => by
    simp only [gL]
    refine gL_congr (fun i y hi ht => ?_) ?_
    · have := hx (i + 1) y (by simpa using hi) ht
      rw [show k + 1 + i = k + (i + 1) from by omega]
      exact this
    · by_cases ht : t ∈ domOf x.os.d
      · have h0 := hx 0 x rfl ht
        rw [Nat.add_zero] at h0
        rw [← h0]
        split
        · rw [at_append, at_append, if_pos ht, if_pos ht]
        · exact hg
      · have : ∀ (b : Bool) (g : Gam), Gam.at (if b = true then x.os.d ++ g else g) t = g.at t := by
          intro b g
          split
          · rw [at_append, if_neg ht]
          · rfl
        rw [this, this]; exact hg
theorem gL_same {t : Nat} : ∀ {xs : List XS} {k : Nat} {L : Nat → Bool} {g : Gam}, (∀ (i : Nat) (x : XS), xs[i]? = some x → L (k + i) = true → t ∉ domOf x.os.d) → (gL xs k L g).at t = g.at t
  | [], _, _, _, _ => rfl
  | x :: xs, k, L, g, hx => by
    simp only [gL]
    rw [gL_same fun i y hi hl => hx (i + 1) y (by simpa using hi) (by rw [← hl]; congr 1; omega)]
    split
    · rename_i hk
      rw [at_append, if_neg (hx 0 x rfl hk)]
    · rfl
theorem gL_new {t : Nat} : ∀ {xs : List XS} {k i : Nat} {L : Nat → Bool} {g : Gam} {x : XS}, xs[i]? = some x → L (k + i) = true → t ∈ domOf x.os.d → (∀ (j : Nat) (y : XS), xs[j]? = some y → i < j → L (k + j) = true → t ∉ domOf y.os.d) → (gL xs k L g).at t = x.os.d.at t
  | [], _, _, _, _, _, hx, _, _, _ => by simp at hx
  | y :: xs, k, 0, L, g, x, hx, hl, ht, hn => by
    simp at hx; subst hx
    simp only [gL]
    rw [Nat.add_zero] at hl
    rw [hl, if_pos rfl, gL_same fun j z hj hlj => hn (j + 1) z (by simpa using hj) (by omega) (by rw [← hlj]; congr 1; omega), at_append, if_pos ht]
  | y :: xs, k, i + 1, L, g, x, hx, hl, ht, hn => by
    simp only [gL]
    exact gL_new (i := i) (by simpa using hx) (by rw [← hl]; congr 1; omega) ht fun j z hj hij hlj => hn (j + 1) z (by simpa using hj) (by omega) (by rw [← hlj]; congr 1; omega)
theorem gL_from {t : Nat} : ∀ {xs : List XS} {k : Nat} {L : Nat → Bool} {g : Gam}, (gL xs k L g).at t = g.at t ∨ ∃ j y, xs[j]? = some y ∧ L (k + j) = true ∧ t ∈ domOf y.os.d ∧ (gL xs k L g).at t = y.os.d.at t
  | [], _, _, _ => .inl rfl
  | x :: xs, k, L, g => by
    simp only [gL]
    rcases gL_from (xs := xs) (k := k + 1) (L := L) (g := if L k = true then x.os.d ++ g else g) (t := t) with h | ⟨j, y, hj, hl, ht, h⟩
    · by_cases hk : L k = true
      · rw [if_pos hk] at h ⊢
        rw [at_append] at h
        split at h
        · rename_i ht
          exact .inr ⟨0, x, rfl, hk, ht, h⟩
        · exact .inl h
      · rw [if_neg hk] at h ⊢
        exact .inl h
    · exact .inr ⟨j + 1, y, by simpa using hj, by rw [← hl]; congr 1; omega, ht, h⟩
theorem gL_take : ∀ {xs : List XS} {k j : Nat} {g : Gam}, gL xs k (fun i => decide (i < k + j)) g = gAll (xs.take j) g
  | [], _, _, _ => by simp [gL, gAll]
  | x :: xs, k, 0, g => by
    simp only [gL]
    rw [if_neg (by simp)]
    simp only [List.take_zero, gAll, List.foldl_nil]
    have h0 : ∀ (xs : List XS) (k' : Nat) (g : Gam), k ≤ k' → gL xs k' (fun i => decide (i < k + 0)) g = g := by
      intro xs
      induction xs with
      | nil => intro k' g _; rfl
      | cons y ys ih =>
        intro k' g hk
        simp only [gL]
        rw [if_neg (by simp; omega)]
        exact ih (k' + 1) g (by omega)
    exact h0 xs (k + 1) g (by omega)
  | x :: xs, k, j + 1, g => by
    simp only [gL]
    rw [if_pos (by simp)]
    have h1 := gL_take (xs := xs) (k := k + 1) (j := j) (g := x.os.d ++ g)
    have h2 : (fun i => decide (i < k + 1 + j)) = fun i => decide (i < k + (j + 1)) := by
      funext i
      congr 1
      apply propext
      omega
    rw [h2] at h1
    rw [h1]
    simp [gAll]

theorem stepAll_spec {c : Ctx} {draw : Bool} {lets : List Nat} {ops : Array Oper} : ∀ {l : List Oper} {g gf : Gam} {xs0 xs : List XS}, stepAll c draw lets ops l g xs0 = some (gf, xs) →
    ∃ ys, xs = xs0 ++ ys ∧ ys.length = l.length ∧ gf = gAll ys g ∧ ∀ (j : Nat) (o : Oper), l[j]? = some o → ∃ y, ys[j]? = some y ∧ stepOp c lets ops (gAll (ys.take j) g) o = some y.os ∧ y.R = looks ops (gAll (ys.take j) g) o ∧ y.T = waits draw (xs0 ++ ys.take j) o ∧ (draw = true → ∀ e ∈ edgesOf o, e < xs0.length + j)
  | [], g, gf, xs0, xs, h => by
    simp only [stepAll, Option.some.injEq, Prod.mk.injEq] at h
    obtain ⟨rfl, rfl⟩ := h
    exact ⟨[], by simp, rfl, rfl, fun j o hj => by simp at hj⟩
  | o :: l, g, gf, xs0, xs, h => by
    simp only [stepAll] at h
    split at h
    · cases h
    · rename_i hedge
      simp only [Option.bind_eq_some_iff] at h
      obtain ⟨os, hos, h⟩ := h
      obtain ⟨ys, rfl, hl, rfl, hall⟩ := stepAll_spec h
      refine ⟨{ os, R := looks ops g o, T := waits draw xs0 o } :: ys, by simp, by simp [hl], by simp [gAll], fun j o' hj => ?_⟩
      cases j with
      | zero =>
        simp at hj; subst hj
        refine ⟨_, rfl, by simpa [gAll] using hos, by simp [gAll], by simp, fun hd e he => ?_⟩
        simp only [hd, Bool.true_and, Bool.not_eq_true', Bool.not_eq_false, List.all_eq_true, decide_eq_true_eq] at hedge
        exact hedge e he
      | succ j =>
        obtain ⟨y, h1, h2, h3, h4, h5⟩ := hall j o' (by simpa using hj)
        refine ⟨y, by simpa using h1, by simpa [gAll] using h2, by simpa [gAll] using h3, by simpa using h4, fun hd e he => ?_⟩
        have := h5 hd e he
        simp at this
        omega

/-- what a region must be checked for, put in words -/
structure Reg.Fine (c : Ctx) (draw : Bool) (ops : Array Oper) (g0 : Gam) (xs : List XS) : Prop where
  len : xs.length = ops.size
  at_ : ∀ (i : Nat) (o : Oper) (x : XS), ops[i]? = some o → xs[i]? = some x → stepOp c (letsOf ops) ops (gAll (xs.take i) g0) o = some x.os ∧ x.R = looks ops (gAll (xs.take i) g0) o ∧ x.T = waits draw (xs.take i) o ∧ (draw = true → ∀ e ∈ edgesOf o, e < i)
  ps : ∀ (i : Nat) (x : XS), xs[i]? = some x → (∀ p ∈ x.os.ps, p ∈ domOf x.os.d) ∧ (∀ p ∈ x.os.fz, p ∈ domOf x.os.d) ∧ quietIn x.os g0 = true ∧ ∀ j ∈ x.T, j < i
  pair : ∀ (i j : Nat) (x y : XS), xs[i]? = some x → xs[j]? = some y → okPair x i y j = true
theorem fine_of {c : Ctx} {draw : Bool} {ops : Array Oper} {g0 gf : Gam} {xs : List XS} (h : stepAll c draw (letsOf ops) ops ops.toList g0 [] = some (gf, xs)) (hok : okOrders g0 xs = true) : Reg.Fine c draw ops g0 xs ∧ gf = gAll xs g0 := by
  obtain ⟨ys, hys, hl, rfl, hall⟩ := stepAll_spec h
  simp only [List.nil_append] at hys
  subst hys
  refine ⟨⟨by simpa using hl, fun i o x ho hx => ?_, fun i x hx => ?_, fun i j x y hx hy => ?_⟩, rfl⟩
  · obtain ⟨y, h1, h2, h3, h4, h5⟩ := hall i o (by simpa using ho)
    rw [hx] at h1; cases h1
    exact ⟨h2, h3, by simpa using h4, fun hd e he => by have := h5 hd e he; simpa using this⟩
  all_goals
    simp only [okOrders, List.all_eq_true, Bool.and_eq_true] at hok
    have hm : ∀ (i : Nat) (x : XS), xs[i]? = some x → (x, i) ∈ xs.zipIdx := fun i x hx => List.mem_iff_getElem?.2 ⟨i, by rw [List.getElem?_zipIdx, hx]; simp⟩
  · obtain ⟨⟨⟨⟨h1, h2⟩, h3⟩, h4⟩, _⟩ := hok (x, i) (hm i x hx)
    exact ⟨fun p hp => by simpa using h1 p hp, fun p hp => by simpa using h2 p hp, h3, fun j hj => by simpa using h4 j hj⟩
  · obtain ⟨_, h5⟩ := hok (x, i) (hm i x hx)
    exact h5 (y, j) (hm j y hy)

section
variable {c : Ctx} {B : Nat} {G : Nat → Prop} {s : St} {a a' : Act} {w w' w0 : World} {h h' : GH} {g0 : Gam} {ops : Array Oper} {xs : List XS} {draw : Bool} {L : Nat → Bool}

/-- those that one waits for have run -/
def Closed (xs : List XS) (L : Nat → Bool) : Prop := ∀ (i : Nat) (x : XS), xs[i]? = some x → L i = true → ∀ j ∈ x.T, L j = true
def add (L : Nat → Bool) (i : Nat) : Nat → Bool := fun j => L j || j == i

theorem pair_spec {x y : XS} {i j : Nat} (hp : okPair x i y j = true) (hne : j ≠ i) (hT : i ∉ y.T) : quietIn x.os y.os.d = true ∧ (j ∉ x.T → (∀ t ∈ domOf y.os.d, t ∉ domOf x.os.d) ∧ ∀ t ∈ domOf y.os.d, t ∉ x.R) := by
  simp only [okPair, Bool.or_eq_true, Bool.and_eq_true, beq_iff_eq, hne, false_or, List.contains_eq_mem, decide_eq_true_eq, hT] at hp
  refine ⟨hp.1, fun hj => ?_⟩
  have := hp.2.resolve_left fun h => h.elim (fun h => hj h) (fun h => h)
  simp only [apartL, List.all_eq_true, Bool.not_eq_true', List.contains_eq_mem, decide_eq_false_iff_not] at this
  exact this
theorem quietIn_spec {os : OS} {g : Gam} (hq : quietIn os g = true) {t : Nat} (ht : t ∉ domOf os.d) : calm os.ps os.rb os.fz (g.at t).2 = true := by
  by_cases hm : t ∈ domOf g
  · have := List.all_eq_true.1 hq _ (at_mem hm)
    simp only [Bool.or_eq_true, List.contains_eq_mem, decide_eq_true_eq] at this
    exact this.resolve_left ht
  · rw [at_not_mem hm]; exact calm_no _ _ _

theorem Reg.Fine.only (hf : Reg.Fine c draw ops g0 xs) (hcl : Closed xs L) (hr : RelG c B G s a w h (gL xs 0 L g0)) {i : Nat} {x : XS} (hx : xs[i]? = some x) (hi : L i = false) (hT : ∀ j ∈ x.T, L j = true) :
    RelG c B G s a w h (only (gAll (xs.take i) g0) x.R) := by
  have hsame : ∀ t, t ∈ x.R → (gL xs 0 L g0).at t = (gAll (xs.take i) g0).at t := by
    intro t ht
    have hgt := gL_take (xs := xs) (k := 0) (j := i) (g := g0)
    simp only [Nat.zero_add] at hgt
    rw [← hgt]
    refine gL_congr (fun j y hy htd => ?_) rfl
    rw [Nat.zero_add]
    obtain ⟨_, _, _, hTy⟩ := hf.ps j y hy
    obtain ⟨_, _, _, hTx⟩ := hf.ps i x hx
    by_cases hji : j = i
    · subst hji; rw [hi]; simp
    · have hcase : j ∉ x.T → i ∉ y.T → False := fun h1 h2 => ((pair_spec (hf.pair i j x y hx hy) hji h2).2 h1).2 t htd ht
      rcases Nat.lt_or_gt_of_ne hji with hlt | hgt
      · by_cases hjT : j ∈ x.T
        · rw [hT j hjT]; simp [hlt]
        · exact (hcase hjT fun hh => by have := hTy i hh; omega).elim
      · cases hL : L j with
        | false => simp; omega
        | true =>
          exfalso
          refine hcase (fun hh => by have := hTx j hh; omega) fun hh => ?_
          have := hcl j y hy hL i hh
          rw [hi] at this; cases this
  refine ⟨hr.ok, fun t => ?_, fun t => ?_⟩
  · rw [only_at]
    split
    · rename_i ht
      rw [← hsame t ht]; exact hr.at_ t
    · intro _ hn; simp [TK.isNo] at hn
  · rw [only_at]
    split
    · rename_i ht
      rw [← hsame t ht]; exact hr.skip t
    · exact fun hn => absurd (holds_ix0 s c) hn

theorem Reg.Fine.next (hf : Reg.Fine c draw ops g0 xs) (hcl : Closed xs L) (hr : RelG c B G s a w h (gL xs 0 L g0)) {i : Nat} {x : XS} (hx : xs[i]? = some x) (hi : L i = false) (hrb : ∀ t ∈ x.os.rb, t ∈ x.os.ps) (hT : ∀ j ∈ x.T, L j = true) (hp : OPost c B G s a a' w w' h h' x.os) :
    RelG c B G s a' w' h' (gL xs 0 (add L i) g0) := by
  obtain ⟨hps, hfz, hq0, hTx⟩ := hf.ps i x hx
  have key : ∀ t, (holds s (ixC c ((gL xs 0 (add L i) g0).at t).1) → ((gL xs 0 (add L i) g0).at t).2.isNo = false → ∃ v, a'.tmps[t]? = some v ∧ RelK c.P B s w' h' (fun p => a'.tmps[p]?) t v ((gL xs 0 (add L i) g0).at t).2) ∧
      (¬ holds s (ixC c ((gL xs 0 (add L i) g0).at t).1) → a'.tmps.getD t undef = undef) := by
    intro t
    by_cases ht : t ∈ domOf x.os.d
    · have : (gL xs 0 (add L i) g0).at t = x.os.d.at t := by
        refine gL_new hx (by simp [add]) ht fun j y hy hij hl htd => ?_
        have hlj : L j = true := by
          simp only [add, Nat.zero_add, Bool.or_eq_true, beq_iff_eq] at hl
          exact hl.resolve_right (by omega)
        have hTi : i ∉ y.T := fun hh => by
          have := hcl j y hy hlj i hh
          rw [hi] at this; cases this
        exact ((pair_spec (hf.pair i j x y hx hy) (by omega) hTi).2 fun hh => by have := hTx j hh; omega).1 t htd ht
      rw [this]
      exact hp.ent t ht
    · have hsame : (gL xs 0 (add L i) g0).at t = (gL xs 0 L g0).at t := by
        refine gL_congr (fun j y hy htd => ?_) rfl
        by_cases hji : j = i
        · subst hji
          rw [hx] at hy; cases hy
          exact absurd htd ht
        · simp [add, hji]
      rw [hsame]
      have htp : t ∉ x.os.ps := fun hh => ht (hps t hh)
      have hcalm : calm x.os.ps x.os.rb x.os.fz ((gL xs 0 L g0).at t).2 = true := by
        rcases gL_from (xs := xs) (k := 0) (L := L) (g := g0) (t := t) with h1 | ⟨j, y, hy, hl, htd, h1⟩
        · rw [h1]; exact quietIn_spec hq0 ht
        · rw [h1]
          rw [Nat.zero_add] at hl
          have hji : j ≠ i := fun e => by subst e; rw [hi] at hl; cases hl
          have hTi : i ∉ y.T := fun hh => by
            have := hcl j y hy hl i hh
            rw [hi] at this; cases this
          exact quietIn_spec (pair_spec (hf.pair i j x y hx hy) hji hTi).1 ht
      refine ⟨fun hC hn => ?_, fun hn => ?_⟩
      · obtain ⟨v, hv, hk⟩ := hr.at_ t hC hn
        exact ⟨v, by rw [hp.tm t htp]; exact hv, hk.keep hp.step hr.ok hrb htp (fun hh => absurd (hfz t hh) ht) hcalm hp.tm⟩
      · have := hr.skip t hn
        simp only [Array.getD_eq_getD_getElem?, hp.tm t htp] at this ⊢
        exact this
  exact ⟨hp.ok, fun t => (key t).1, fun t => (key t).2⟩
theorem closed_add (hcl : Closed xs L) {i : Nat} {x : XS} (hx : xs[i]? = some x) (hT : ∀ j ∈ x.T, L j = true) : Closed xs (add L i) := by
  intro j y hy hl k hk
  simp only [add, Bool.or_eq_true, beq_iff_eq] at hl ⊢
  rcases hl with hl | rfl
  · exact .inl (hcl j y hy hl k hk)
  · rw [hx] at hy; cases hy
    exact .inl (hT k hk)
end
end Vm
