/-
  What an act keeps of a right graph: plain facts.
-/
import Derived.Test.YtbmgnmjghhakhaaLa
namespace Vm
open Go Go.Proofs
set_option linter.unusedSimpArgs false
set_option linter.unusedVariables false
set_option maxRecDepth 100000
structure Kept (g : Gr) (a : Ac) (x : Gr) : Prop where
  ok : right x = true
  srt : a.kind = 4 ∨ a.kind = 5 → isRt g a.s = true
  rlen : x.roots.length = g.roots.length
  nlen : x.nodes.length = g.nodes.length + (if a.kind = 1 then 1 else 0)
  root : ∀ (i : Nat) (y z : Int), g.roots[i]? = some y → x.roots[i]? = some z → z ≠ y → (i : Int) = a.r ∧ a.kind ≠ 3 ∧ a.kind ≠ 5 ∧ a.kind ≠ 4
  node : ∀ (i : Nat) (p q : Nd), g.nodes[i]? = some p → x.nodes[i]? = some q → p.ptrs.length = q.ptrs.length ∧ p.data.length = q.data.length
  ptr : ∀ (i : Nat) (p q : Nd) (k : Nat), g.nodes[i]? = some p → x.nodes[i]? = some q → p.ptrs[k]? ≠ q.ptrs[k]? → a.kind = 4 ∧ (i : Int) = rt g a.s ∧ (k : Int) = a.i
  dat : ∀ (i : Nat) (p q : Nd) (k : Nat), g.nodes[i]? = some p → x.nodes[i]? = some q → p.data[k]? ≠ q.data[k]? → a.kind = 5 ∧ (i : Int) = rt g a.s ∧ (k : Int) = a.i
  words : (words x : Int) = words g + if a.kind = 1 then 1 + a.size else 0
theorem words_rooted {g : Gr} (hr : right g = true) {r x : Int} (hx : -1 ≤ x ∧ x < (g.nodes.length : Int)) : words (rooted g r x) = words g := by
  have := right_rooted hr (r := r) hx
  simp only [words, hr, this, if_true]
  rfl
theorem wsum_set : ∀ {l : List Nd} {i : Nat} {n m : Nd}, l[i]? = some n → ndW m = ndW n → wsum (l.set i m) = wsum l
  | [], _, _, _, h, _ => by simp at h
  | a :: l, 0, n, m, h, he => by
    simp at h
    subst h
    simp [wsum, he]
  | a :: l, i + 1, n, m, h, he => by
    have := wsum_set (l := l) (i := i) (by simpa using h) he
    simp [wsum] at this ⊢
    exact this
theorem words_turned {g : Gr} (hr : right g = true) {x : Nat} {n m : Nd} (hx : g.nodes[x]? = some n) (he : ndW m = ndW n) (hm : right (turned g (x : Int) m) = true) : words (turned g (x : Int) m) = words g := by
  simp only [words, hr, hm, if_true]
  exact wsum_set hx he
theorem kept_rooted {g : Gr} {a : Ac} (hr : right g = true) (ha : isRt g a.r = true) (hk : a.kind = 2 ∨ a.kind = 6 ∨ a.kind = 7) {y : Int} (hy : -1 ≤ y ∧ y < (g.nodes.length : Int)) : Kept g a (rooted g a.r y) where
  ok := right_rooted hr hy
  srt := by omega
  rlen := by simp [rooted]
  nlen := by rw [if_neg (by omega)]; rfl
  root := fun i u w hu hw hne => by
    obtain ⟨h1, h2⟩ := isRt_iff.1 ha
    simp only [rooted, List.getElem?_set] at hw
    split at hw
    · exact ⟨by omega, by omega, by omega, by omega⟩
    · rw [hu] at hw
      exact (hne (Option.some.inj hw).symm).elim
  node := fun i p q hp hq => by
    have : g.nodes[i]? = some q := hq
    rw [hp] at this
    cases this
    exact ⟨rfl, rfl⟩
  ptr := fun i p q k hp hq hne => by
    have : g.nodes[i]? = some q := hq
    rw [hp] at this
    cases this
    exact (hne rfl).elim
  dat := fun i p q k hp hq hne => by
    have : g.nodes[i]? = some q := hq
    rw [hp] at this
    cases this
    exact (hne rfl).elim
  words := by rw [if_neg (by omega), words_rooted hr hy]; omega
theorem kept_same {g : Gr} {a : Ac} (hr : right g = true) (hk : a.kind = 3) : Kept g a g where
  ok := hr
  srt := by omega
  rlen := rfl
  nlen := by rw [if_neg (by omega)]; rfl
  root := fun i u w hu hw hne => by
    rw [hu] at hw
    exact (hne (Option.some.inj hw).symm).elim
  node := fun i p q hp hq => by
    rw [hp] at hq
    cases hq
    exact ⟨rfl, rfl⟩
  ptr := fun i p q k hp hq hne => by
    rw [hp] at hq
    cases hq
    exact (hne rfl).elim
  dat := fun i p q k hp hq hne => by
    rw [hp] at hq
    cases hq
    exact (hne rfl).elim
  words := by rw [if_neg (by omega)]; omega
theorem kept_new {g : Gr} {a : Ac} (hr : right g = true) (ha : isRt g a.r = true) (hk : a.kind = 1) (hs : shapeOk a.size a.ptrs = true) {r : Nat} (hr' : a.r = r) : Kept g a (newGr g r a.size a.ptrs) where
  ok := right_new hr hs r
  srt := by omega
  rlen := by simp [newGr]
  nlen := by rw [if_pos hk]; simp [newGr]
  root := fun i u w hu hw hne => by
    simp only [newGr, List.getElem?_set] at hw
    split at hw
    · exact ⟨by omega, by omega, by omega, by omega⟩
    · rw [hu] at hw
      exact (hne (Option.some.inj hw).symm).elim
  node := fun i p q hp hq => by
    have hl : i < g.nodes.length := (List.getElem?_eq_some_iff.1 hp).1
    simp only [newGr] at hq
    rw [List.getElem?_append_left hl, hp] at hq
    cases hq
    exact ⟨rfl, rfl⟩
  ptr := fun i p q k hp hq hne => by
    have hl : i < g.nodes.length := (List.getElem?_eq_some_iff.1 hp).1
    simp only [newGr] at hq
    rw [List.getElem?_append_left hl, hp] at hq
    cases hq
    exact (hne rfl).elim
  dat := fun i p q k hp hq hne => by
    have hl : i < g.nodes.length := (List.getElem?_eq_some_iff.1 hp).1
    simp only [newGr] at hq
    rw [List.getElem?_append_left hl, hp] at hq
    cases hq
    exact (hne rfl).elim
  words := by rw [if_pos hk, words_new hr hs]; omega
theorem kept_ptr {g : Gr} {a : Ac} (hr : right g = true) (hs : isRt g a.s = true) (hk : a.kind = 4) {x j : Nat} {n : Nd} (hx : rt g a.s = (x : Int)) (hn : g.nodes[x]? = some n) (hj : a.i = (j : Int)) {y : Int} (hy : -1 ≤ y ∧ y < (g.nodes.length : Int)) :
    Kept g a (turned g (x : Int) ⟨n.ptrs.set j y, n.data⟩) := by
  obtain ⟨h1, h2, h3⟩ := right_iff.1 hr
  have hno := h2 n (List.mem_of_getElem? hn)
  have hok : right (turned g (x : Int) ⟨n.ptrs.set j y, n.data⟩) = true := right_turned hr (by simpa using hno.1) fun z hz => by
    rcases List.mem_or_eq_of_mem_set hz with h | rfl
    · exact hno.2 z h
    · exact hy
  have hat : ∀ (i : Nat) (q : Nd), (turned g (x : Int) ⟨n.ptrs.set j y, n.data⟩).nodes[i]? = some q → (i = x ∧ q = ⟨n.ptrs.set j y, n.data⟩) ∨ (i ≠ x ∧ g.nodes[i]? = some q) := fun i q hq => by
    simp only [turned, List.getElem?_set, Int.toNat_natCast] at hq
    split at hq
    · rename_i h
      split at hq
      · exact .inl ⟨h.symm, (Option.some.inj hq).symm⟩
      · cases hq
    · rename_i h
      exact .inr ⟨fun e => h e.symm, hq⟩
  exact {
    ok := hok
    srt := fun _ => hs
    rlen := rfl
    nlen := by rw [if_neg (by omega)]; simp [turned]
    root := fun i u w hu hw hne => by
      have hw' : g.roots[i]? = some w := hw
      rw [hu] at hw'
      exact (hne (Option.some.inj hw').symm).elim
    node := fun i p q hp hq => by
      rcases hat i q hq with ⟨rfl, rfl⟩ | ⟨_, h⟩
      · rw [hn] at hp
        cases hp
        simp
      · rw [hp] at h
        cases h
        exact ⟨rfl, rfl⟩
    ptr := fun i p q k hp hq hne => by
      rcases hat i q hq with ⟨rfl, rfl⟩ | ⟨_, h⟩
      · rw [hn] at hp
        cases hp
        refine ⟨hk, hx.symm, ?_⟩
        simp only [List.getElem?_set] at hne
        split at hne
        · rename_i h; omega
        · exact (hne rfl).elim
      · rw [hp] at h
        cases h
        exact (hne rfl).elim
    dat := fun i p q k hp hq hne => by
      rcases hat i q hq with ⟨rfl, rfl⟩ | ⟨_, h⟩
      · rw [hn] at hp
        cases hp
        exact (hne rfl).elim
      · rw [hp] at h
        cases h
        exact (hne rfl).elim
    words := by rw [if_neg (by omega), words_turned hr hn (by simp [ndW]) hok]; omega }
theorem kept_dat {g : Gr} {a : Ac} (hr : right g = true) (hs : isRt g a.s = true) (hk : a.kind = 5) {x j : Nat} {n : Nd} (hx : rt g a.s = (x : Int)) (hn : g.nodes[x]? = some n) (hj : a.i = (j : Int)) {y : Int} :
    Kept g a (turned g (x : Int) ⟨n.ptrs, n.data.set j y⟩) := by
  obtain ⟨h1, h2, h3⟩ := right_iff.1 hr
  have hno := h2 n (List.mem_of_getElem? hn)
  have hok : right (turned g (x : Int) ⟨n.ptrs, n.data.set j y⟩) = true := right_turned hr (by simpa using hno.1) hno.2
  have hat : ∀ (i : Nat) (q : Nd), (turned g (x : Int) ⟨n.ptrs, n.data.set j y⟩).nodes[i]? = some q → (i = x ∧ q = ⟨n.ptrs, n.data.set j y⟩) ∨ (i ≠ x ∧ g.nodes[i]? = some q) := fun i q hq => by
    simp only [turned, List.getElem?_set, Int.toNat_natCast] at hq
    split at hq
    · rename_i h
      split at hq
      · exact .inl ⟨h.symm, (Option.some.inj hq).symm⟩
      · cases hq
    · rename_i h
      exact .inr ⟨fun e => h e.symm, hq⟩
  exact {
    ok := hok
    srt := fun _ => hs
    rlen := rfl
    nlen := by rw [if_neg (by omega)]; simp [turned]
    root := fun i u w hu hw hne => by
      have hw' : g.roots[i]? = some w := hw
      rw [hu] at hw'
      exact (hne (Option.some.inj hw').symm).elim
    node := fun i p q hp hq => by
      rcases hat i q hq with ⟨rfl, rfl⟩ | ⟨_, h⟩
      · rw [hn] at hp
        cases hp
        simp
      · rw [hp] at h
        cases h
        exact ⟨rfl, rfl⟩
    dat := fun i p q k hp hq hne => by
      rcases hat i q hq with ⟨rfl, rfl⟩ | ⟨_, h⟩
      · rw [hn] at hp
        cases hp
        refine ⟨hk, hx.symm, ?_⟩
        simp only [List.getElem?_set] at hne
        split at hne
        · rename_i h; omega
        · exact (hne rfl).elim
      · rw [hp] at h
        cases h
        exact (hne rfl).elim
    ptr := fun i p q k hp hq hne => by
      rcases hat i q hq with ⟨rfl, rfl⟩ | ⟨_, h⟩
      · rw [hn] at hp
        cases hp
        exact (hne rfl).elim
      · rw [hp] at h
        cases h
        exact (hne rfl).elim
    words := by rw [if_neg (by omega), words_turned hr hn (by simp [ndW]) hok]; omega }
/-- what an act may be -/
inductive Did (g : Gr) (a : Ac) : Int × Gr × Int → Prop where
  | arg : Did g a (0, noGr, 1)
  | none : Did g a (0, noGr, 6)
  | fresh (r : Nat) : a.kind = 1 → isRt g a.r = true → shapeOk a.size a.ptrs = true → a.r = r → Did g a (0, newGr g r a.size a.ptrs, 0)
  | rooted (y : Int) : a.kind = 2 ∨ a.kind = 6 ∨ a.kind = 7 → isRt g a.r = true → -1 ≤ y ∧ y < (g.nodes.length : Int) → Did g a (0, rooted g a.r y, 0)
  | got (v : Int) : a.kind = 3 → Did g a (v, g, 0)
  | stored (x j : Nat) (n : Nd) : a.kind = 4 → isRt g a.r = true → isRt g a.s = true → rt g a.s = (x : Int) → g.nodes[x]? = some n → a.i = (j : Int) → j < n.ptrs.length → Did g a (0, turned g (x : Int) ⟨n.ptrs.set j (rt g a.r), n.data⟩, 0)
  | put (x j : Nat) (n : Nd) : a.kind = 5 → isRt g a.s = true → rt g a.s = (x : Int) → g.nodes[x]? = some n → a.i = (j : Int) → j < n.data.length → Did g a (0, turned g (x : Int) ⟨n.ptrs, n.data.set j a.v⟩, 0)
theorem did {g : Gr} (hr : right g = true) (a : Ac) : Did g a (doR g a) := by
  unfold doR
  rw [hr]
  cases hn : namesR g a
  · exact .arg
  · simp only [Bool.and_self, if_true]
    have hrr : a.kind = 1 ∨ a.kind = 6 ∨ a.kind = 7 ∨ a.kind = 2 ∨ a.kind = 4 → isRt g a.r = true := fun h => by
      unfold namesR at hn
      rcases h with h | h | h | h | h <;> rw [h] at hn <;> simp at hn <;> simp [hn]
    have hss : a.kind = 6 ∨ a.kind = 2 ∨ a.kind = 3 ∨ a.kind = 4 ∨ a.kind = 5 → isRt g a.s = true := fun h => by
      unfold namesR at hn
      rcases h with h | h | h | h | h <;> rw [h] at hn <;> simp at hn <;> simp [hn]
    by_cases k1 : a.kind = 1
    · rw [if_pos k1]
      split
      · rename_i hs
        have ha := hrr (.inl k1)
        obtain ⟨r, hre⟩ := Int.eq_ofNat_of_zero_le (isRt_iff.1 ha).1
        rw [show (⟨g.nodes ++ [freshNd a.size a.ptrs], g.roots.set a.r.toNat g.nodes.length⟩ : Gr) = newGr g r a.size a.ptrs by rw [hre]; rfl]
        exact .fresh r k1 ha hs hre
      · exact .arg
    rw [if_neg k1]
    by_cases k6 : a.kind = 6
    · rw [if_pos k6]
      exact .rooted _ (by omega) (hrr (by omega)) (rt_range hr (hss (by omega)))
    rw [if_neg k6]
    by_cases k7 : a.kind = 7
    · rw [if_pos k7]
      exact .rooted _ (by omega) (hrr (by omega)) (by omega)
    rw [if_neg k7]
    have hk : a.kind = 2 ∨ a.kind = 3 ∨ a.kind = 4 ∨ a.kind = 5 := by
      unfold namesR at hn
      by_cases q2 : a.kind = 2
      · exact .inl q2
      · by_cases q3 : a.kind = 3
        · exact .inr (.inl q3)
        · by_cases q4 : a.kind = 4
          · exact .inr (.inr (.inl q4))
          · by_cases q5 : a.kind = 5
            · exact .inr (.inr (.inr q5))
            · simp [k1, k6, k7, q2, q3, q4, q5] at hn
    have hs := hss (by omega)
    unfold slotR
    rcases slot_cases hr hs with h0 | ⟨x, n, hx, hnx, hxl⟩
    · simp only [h0]
      exact .none
    · simp only [hx, hnx, Int.toNat_natCast, Option.getD_some]
      rw [if_neg (by omega)]
      have hno := (right_iff.1 hr).2.1 n (List.mem_of_getElem? hnx)
      generalize hmany : (if a.kind = 3 ∨ a.kind = 5 then n.data.length else n.ptrs.length) = many
      split
      · exact .arg
      · rename_i hi
        obtain ⟨j, hj⟩ := Int.eq_ofNat_of_zero_le (show 0 ≤ a.i by omega)
        by_cases k2 : a.kind = 2
        · rw [if_pos k2]
          have hjl : j < n.ptrs.length := by
            rw [if_neg (by omega)] at hmany
            omega
          rw [hj, Int.toNat_natCast, List.getElem?_eq_getElem hjl]
          exact .rooted _ (by omega) (hrr (by omega)) (hno.2 _ (List.getElem_mem hjl))
        rw [if_neg k2]
        by_cases k3 : a.kind = 3
        · rw [if_pos k3]
          exact .got _ k3
        rw [if_neg k3]
        by_cases k4 : a.kind = 4
        · rw [if_pos k4]
          have hjl : j < n.ptrs.length := by
            rw [if_neg (by omega)] at hmany
            omega
          rw [hj, Int.toNat_natCast]
          exact .stored x j n k4 (hrr (by omega)) hs hx hnx hj hjl
        · rw [if_neg k4]
          have hjl : j < n.data.length := by
            rw [if_pos (by omega)] at hmany
            omega
          rw [hj, Int.toNat_natCast]
          exact .put x j n (by omega) hs hx hnx hj hjl
theorem Did.kept {g : Gr} {a : Ac} (hr : right g = true) {r : Int × Gr × Int} (h : Did g a r) : r = (0, noGr, 1) ∨ r = (0, noGr, 6) ∨ ∃ v x, r = (v, x, 0) ∧ Kept g a x := by
  cases h with
  | arg => exact .inl rfl
  | none => exact .inr (.inl rfl)
  | fresh r hk ha hs hre => exact .inr (.inr ⟨_, _, rfl, kept_new hr ha hk hs hre⟩)
  | rooted y hk ha hy => exact .inr (.inr ⟨_, _, rfl, kept_rooted hr ha hk hy⟩)
  | got v hk => exact .inr (.inr ⟨_, _, rfl, kept_same hr hk⟩)
  | stored x j n hk ha hs hx hn hj hl => exact .inr (.inr ⟨_, _, rfl, kept_ptr hr hs hk hx hn hj (rt_range hr ha)⟩)
  | put x j n hk hs hx hn hj hl => exact .inr (.inr ⟨_, _, rfl, kept_dat hr hs hk hx hn hj⟩)
end Vm
