/-
  Loops that count: only what is named is another one from round to round.
-/
import Derived.Test.YtfplljcicihneaaWa
namespace Vm
open Go
open Go.Proofs
set_option linter.unusedSimpArgs false
set_option linter.unusedVariables false
def putsS (s : St) : List (Nat × SV) → St
  | [] => s
  | (i, x) :: l => putsS (putS s i x) l
@[simp] theorem putsS_nil (s : St) : putsS s [] = s := rfl
@[simp] theorem putsS_cons (s : St) (i : Nat) (x : SV) (l : List (Nat × SV)) : putsS s ((i, x) :: l) = putsS (putS s i x) l := rfl
section
variable {P : Program} {K K' : St → Prop}
theorem wpO_mono (hK : ∀ s, K s → K' s) {t : St} : ∀ {l : List (Nat × OV)} {u : St}, wpO l t u K → wpO l t u K'
  | [], _, h => hK _ h
  | (i, o) :: l, u, h => by
    simp only [wpO] at h ⊢
    split
    · rename_i x hx
      rw [hx] at h
      exact wpO_mono hK h
    · rename_i hx
      rw [hx] at h
      exact h
theorem wpE_mono (hK : ∀ s, K s → K' s) : ∀ {l : List EF} {s : St}, wpE P l s K → wpE P l s K'
  | [], _, h => hK _ h
  | .lt i C e :: l, s, h => by
    simp only [wpE] at h ⊢
    split
    · rename_i hc
      rw [if_pos hc] at h
      split
      · rename_i x hx
        rw [hx] at h
        exact wpE_mono hK h
      · rename_i hx
        rw [hx] at h
        exact h
    · rename_i hc
      rw [if_neg hc] at h
      exact wpE_mono hK h
  | .call i C f fr fl es :: l, s, h => by
    simp only [wpE] at h ⊢
    split
    · rename_i hc
      rw [if_pos hc] at h
      split
      · rename_i x n hx hn
        rw [hx, hn] at h
        obtain ⟨r, h1, h2, h3⟩ := h
        exact ⟨r, h1, h2, wpE_mono hK h3⟩
      · rename_i hne
        split at h
        · rename_i x n hx hn
          exact (hne x n hx hn).elim
        · exact h
    · rename_i hc
      rw [if_neg hc] at h
      exact wpE_mono hK h
  | .callm i C f ks es :: l, s, h => by
    simp only [wpE] at h ⊢
    split
    · rename_i hc
      rw [if_pos hc] at h
      split
      · rename_i x n hx hn
        rw [hx, hn] at h
        obtain ⟨r, h1, h3⟩ := h
        exact ⟨r, h1, wpE_mono hK h3⟩
      · rename_i hx
        split at h
        · rename_i x n h1 h2
          exact (hx x n h1 h2).elim
        · exact h
    · rename_i hc
      rw [if_neg hc] at h
      split at h
      · exact wpE_mono hK h
      · exact wpE_mono hK h
      · exact h.elim
theorem wpS_mono : ∀ {a : Stm} {s : St} {N N' R R' : St → Prop} {X X' : Nat → St → Prop}, wpS P a s N X R → (∀ s, N s → N' s) → (∀ i s, X i s → X' i s) → (∀ s, R s → R' s) → wpS P a s N' X' R'
  | .reg r, s, _, _, _, _, _, _, h, hN, _, _ => wpE_mono (fun t ht => ⟨ht.1, wpO_mono hN ht.2⟩) h
  | .skip, s, _, _, _, _, _, _, h, hN, _, _ => hN _ h
  | .seq a b, s, _, _, _, _, _, _, h, hN, hX, hR => wpS_mono (a := a) (s := s) h (fun t ht => wpS_mono (a := b) (s := t) ht hN hX hR) hX hR
  | .cond c a b, s, _, _, _, _, _, _, h, hN, hX, hR => by
    simp only [wpS] at h ⊢
    split
    · rename_i hc
      rw [hc] at h
      exact wpS_mono h hN hX hR
    · rename_i hc
      rw [hc] at h
      exact wpS_mono h hN hX hR
    · rename_i h1 h2
      split at h
      · rename_i hc; exact (h1 hc).elim
      · rename_i hc; exact (h2 hc).elim
      · exact h
  | .block id a, s, _, _, _, _, _, _, h, hN, hX, hR => wpS_mono (a := a) (s := s) h hN (fun i t ht => by
      split
      · rename_i hi; rw [if_pos hi] at ht; exact hN _ ht
      · rename_i hi; rw [if_neg hi] at ht; exact hX _ _ ht) hR
  | .loop keep a, s, _, _, _, _, _, _, h, hN, hX, hR => by
    obtain ⟨I, m, h1, h2⟩ := h
    exact ⟨I, m, h1, fun t ht => wpS_mono (a := a) (s := t) (h2 t ht) (fun _ h => h) hX hR⟩
  | .exit id, s, _, _, _, _, _, _, h, _, hX, _ => hX _ _ h
  | .ret, s, _, _, _, _, _, _, h, _, _, hR => hR _ h
end
/-- `L p`: what the named cells are at the round p -/
theorem wpS_loopP {P : Program} {keep : List Nat} {a : Stm} {s : St} {N R : St → Prop} {X : Nat → St → Prop} {ι : Type} (L : ι → List (Nat × SV)) (Inv : ι → Prop) (m : St → Nat) (p0 : ι)
    (h0 : onlyS keep s = putsS (onlyS keep s) (L p0)) (hI : Inv p0)
    (h1 : ∀ p, Inv p → wpS P a (putsS (onlyS keep s) (L p)) (fun s' => ∃ q, Inv q ∧ onlyS keep s' = putsS (onlyS keep s) (L q) ∧ m (putsS (onlyS keep s) (L q)) < m (putsS (onlyS keep s) (L p))) X R) :
    wpS P (.loop keep a) s N X R := by
  refine ⟨fun t => ∃ p, Inv p ∧ t = putsS (onlyS keep s) (L p), m, ⟨p0, hI, h0⟩, ?_⟩
  rintro t ⟨p, hp, rfl⟩
  refine wpS_mono (h1 p hp) (fun s' hs => ?_) (fun _ _ h => h) (fun _ h => h)
  obtain ⟨q, hq, he, hm⟩ := hs
  rw [he]
  exact ⟨⟨q, hq, rfl⟩, hm⟩
def cnt (c : Nat) (n : Nat) (t : St) : Nat := match get t c with | .v (.int _ k) => n - k.toNat | _ => 0
/-- the cell c counts from 0 to n -/
theorem wpS_for {P : Program} {keep : List Nat} {a : Stm} {s : St} {N R : St → Prop} {X : Nat → St → Prop} (c n : Nat) (L : Nat → List (Nat × SV)) (Inv : Nat → Prop)
    (h0 : onlyS keep s = putsS (onlyS keep s) (L 0)) (hc : ∀ i, get (putsS (onlyS keep s) (L i)) c = .v (vi i)) (hI : Inv 0)
    (h1 : ∀ i, i ≤ n → Inv i → wpS P a (putsS (onlyS keep s) (L i)) (fun s' => i < n ∧ Inv (i + 1) ∧ onlyS keep s' = putsS (onlyS keep s) (L (i + 1))) X R) :
    wpS P (.loop keep a) s N X R := by
  refine wpS_loopP L (fun i => i ≤ n ∧ Inv i) (cnt c n) 0 h0 ⟨by omega, hI⟩ ?_
  rintro i ⟨hi, hv⟩
  refine wpS_mono (h1 i hi hv) (fun s' hs => ?_) (fun _ _ h => h) (fun _ h => h)
  obtain ⟨h, hv', he⟩ := hs
  refine ⟨i + 1, ⟨by omega, hv'⟩, he, ?_⟩
  simp only [cnt, hc]
  simp
  omega
/-- only the counter is another one -/
theorem wpS_for0 {P : Program} {keep : List Nat} {a : Stm} {s : St} {N R : St → Prop} {X : Nat → St → Prop} (c n : Nat) (Inv : Nat → Prop)
    (h0 : onlyS keep s = putS (onlyS keep s) c (.v (vi 0))) (hc : ∀ x, get (putS (onlyS keep s) c x) c = x) (hI : Inv 0)
    (h1 : ∀ i, i ≤ n → Inv i → wpS P a (putS (onlyS keep s) c (.v (vi i))) (fun s' => i < n ∧ Inv (i + 1) ∧ onlyS keep s' = putS (onlyS keep s) c (.v (vi (i + 1)))) X R) :
    wpS P (.loop keep a) s N X R :=
  wpS_for c n (fun i => [(c, .v (vi i))]) Inv h0 (fun i => hc _) hI h1
/-- the cell c counts from 0 to n, and something goes along -/
theorem wpS_forX {P : Program} {keep : List Nat} {a : Stm} {s : St} {N R : St → Prop} {X : Nat → St → Prop} {α : Type} (c n : Nat) (L : Nat → α → List (Nat × SV)) (Inv : Nat → α → Prop) (x0 : α)
    (h0 : onlyS keep s = putsS (onlyS keep s) (L 0 x0)) (hc : ∀ i x, get (putsS (onlyS keep s) (L i x)) c = .v (vi i)) (hI : Inv 0 x0)
    (h1 : ∀ i x, i ≤ n → Inv i x → wpS P a (putsS (onlyS keep s) (L i x)) (fun s' => i < n ∧ ∃ y, Inv (i + 1) y ∧ onlyS keep s' = putsS (onlyS keep s) (L (i + 1) y)) X R) :
    wpS P (.loop keep a) s N X R := by
  refine wpS_loopP (fun p : Nat × α => L p.1 p.2) (fun p => p.1 ≤ n ∧ Inv p.1 p.2) (cnt c n) (0, x0) h0 ⟨by omega, hI⟩ ?_
  rintro ⟨i, x⟩ ⟨hi, hv⟩
  refine wpS_mono (h1 i x hi hv) (fun s' hs => ?_) (fun _ _ h => h) (fun _ h => h)
  obtain ⟨h, y, hv', he⟩ := hs
  refine ⟨(i + 1, y), ⟨by simp only; omega, hv'⟩, he, ?_⟩
  simp only [cnt, hc]
  simp
  omega
end Vm
