/-
  What is known at a place of the code; forgetting some of it.
-/
import Derived.Test.YtbmgnmjghhakhaaVw
namespace Vm
open Go
open Go.RowKit (Below)
set_option linter.unusedSimpArgs false
set_option linter.unusedVariables false

/-- blocks that are the call's own no more -/
def GH.drop (h : GH) (kp : Nat → Nat → Bool) : GH := { F := fun b => h.F b ∨ ∃ t i, kp t i = false ∧ i ≠ 0 ∧ h.bl t i = some b, bl := fun t i => if kp t i = true ∨ i = 0 then h.bl t i else none, K := h.K }

section
variable {c : Ctx} {B : Nat} {G : Nat → Prop} {s t u : St} {a a' : Act} {w w' : World} {h h' : GH} {g : Gam} {S R : SS}

theorem ok_drop (hok : Ok B G w h) (kp : Nat → Nat → Bool) : Ok B G w (h.drop kp) := by
  refine ⟨hok.base, fun b hb => ?_, fun b hb => ?_, fun b hb => .inl (hok.g_F b hb), fun t i b hb => ?_, fun t i u j b hb hb' => ?_, hok.k_lt, fun t i b hb => ?_, fun b hb => ?_⟩
  · rcases hb with hb | ⟨t, i, _, _, hi⟩
    · exact hok.f_lt b hb
    · exact (hok.b_lt t i b hi).2.1
  · rcases hb with hb | ⟨t, i, _, _, hi⟩
    · exact hok.f_or b hb
    · exact .inr (hok.b_lt t i b hi).1
  · simp only [GH.drop] at hb
    split at hb
    · rename_i hk
      obtain ⟨h1, h2, h3⟩ := hok.b_lt t i b hb
      refine ⟨h1, h2, fun hF => ?_⟩
      rcases hF with hF | ⟨t', i', e1, e2, e3⟩
      · exact h3 hF
      · obtain ⟨rfl, rfl⟩ := hok.inj t i t' i' b hb e3
        rcases hk with hk | hk
        · rw [hk] at e1; cases e1
        · exact e2 hk
    · cases hb
  · simp only [GH.drop] at hb hb'
    split at hb <;> split at hb' <;> first | (cases hb; done) | (cases hb'; done) | exact hok.inj t i u j b hb hb'
  · simp only [GH.drop] at hb
    split at hb
    · exact hok.k_bl t i b hb
    · cases hb
  · rcases hb with hb | ⟨t, i, _, _, hi⟩
    · exact hok.k_F b hb
    · exact .inr (hok.k_bl t i b hi)

theorem leSS_at {P : Program} (hle : leSS P S R = true) {p : Nat} {k : OT} (hp : R.at p = some k) : ∃ k0, S.at p = some k0 ∧ leOT P k0 k = true := by
  have := List.all_eq_true.1 hle _ (atSS_mem hp)
  simp only at this
  split at this
  · rename_i k0 hk; exact ⟨k0, hk, this⟩
  · cases this

/-- a cell, known less well -/
theorem RelC.weak {P : Program} {o o' : Option Nat} {k k' : CK} {e : E} {v : Value} (hr : RelC P B s w h o k e v) (hle : leCK P k k' = true) (hF : ∀ b, h.F b → h'.F b)
    (hown : ∀ ty ty', k = .own ty → k' = .own ty' → o' = o) (hdrop : (∀ ty, k' ≠ .own ty) → ∀ b, o = some b → h'.F b) (hnil : ∀ ty, k = .nil → k' = .own ty → o' = none) : RelC P B s w h' o' k' e v := by
  cases k with
  | fz =>
    cases k' <;> simp only [leCK] at hle <;> first | (cases hle; done) | skip
    · obtain ⟨x, h0, h1, h2⟩ := hr; exact ⟨x, h0, h1, h2.mono hF⟩
    · exact hr.cell
  | own ty =>
    cases k' <;> simp only [leCK] at hle <;> first | (cases hle; done) | skip
    · obtain ⟨x, h0, h1⟩ := hr
      exact ⟨x, h0, h1.one, h1.rd hF (hdrop (by simp))⟩
    · rename_i ty'
      simp only [beq_iff_eq] at hle
      subst hle
      obtain ⟨x, h0, h1⟩ := hr
      exact ⟨x, h0, h1.mono hF (hown ty ty rfl rfl).symm⟩
    · exact hr.cell
  | nil =>
    obtain ⟨rfl, h0⟩ := hr
    cases k' <;> simp only [leCK] at hle <;> first | (cases hle; done) | skip
    · exact ⟨_, h0, rfl, .nil _ _ (Nat.zero_le _)⟩
    · rename_i ty
      simp only [decide_eq_true_eq] at hle
      rw [hnil ty rfl rfl]
      exact ⟨_, h0, .inl ⟨[], [], rfl, hle, fun x hx => by simp at hx, World.ownsRow_nil w B ty _, rfl, fun i ck hi => by simp [flat] at hi⟩⟩
    · exact ⟨rfl, h0⟩
    · rfl
  | dead =>
    cases k' <;> simp only [leCK] at hle <;> first | (cases hle; done) | skip
    exact hr

def isOwnC : CK → Bool
  | .own _ => true
  | _ => false
/-- which blocks stay the call's own -/
def keepP (S R : SS) (t i : Nat) : Bool :=
  match S.at t, R.at t with
  | some (.own _), some (.own _) => true
  | some (.mem a), some (.mem b) => match a[i - 1]?, b[i - 1]? with
    | some (.own _), some (.own _) => true
    | _, _ => false
  | _, _ => false
theorem leCKs_get {P : Program} : ∀ {a b : List CK}, leCKs P a b = true → a.length = b.length ∧ ∀ (i : Nat) (x y : CK), a[i]? = some x → b[i]? = some y → leCK P x y = true
  | [], [], _ => ⟨rfl, fun i x y hx => by simp at hx⟩
  | [], _ :: _, h => by simp [leCKs] at h
  | _ :: _, [], h => by simp [leCKs] at h
  | x :: a, y :: b, h => by
    simp only [leCKs, Bool.and_eq_true] at h
    obtain ⟨h1, h2⟩ := leCKs_get h.2
    refine ⟨by simp [h1], fun i p q hp hq => ?_⟩
    cases i with
    | zero => simp at hp hq; subst hp hq; exact h.1
    | succ i => exact h2 i p q (by simpa using hp) (by simpa using hq)

theorem RelS_weak (hr : RelG c B G s a w h (entry c S)) (hnil : NilOk c s S) (hle : leSS c.P S R = true) : RelG c B G s a w (h.drop (keepP S R)) (entry c R) ∧ NilOk c s R := by
  constructor
  · refine ⟨ok_drop hr.ok _, fun p _ hn => ?_, fun p hh => absurd (by rw [entry_at]; cases R.at p <;> exact holds_ix0 s c) hh⟩
    rw [entry_at] at hn ⊢
    cases hR : R.at p with
    | none => rw [hR] at hn; simp [TK.isNo] at hn
    | some k' =>
      obtain ⟨k, hS, hk⟩ := leSS_at hle hR
      obtain ⟨v, hv, hrel⟩ := hr.at_ p (by rw [entry_at, hS]; exact holds_ix0 s c) (by rw [entry_at, hS]; cases k <;> rfl)
      refine ⟨v, hv, ?_⟩
      rw [entry_at, hS] at hrel
      simp only at hrel ⊢
      have hF : ∀ b, h.F b → (h.drop (keepP S R)).F b := fun b hb => .inl hb
      have hFe : ∀ b, h.ext [] b → (h.drop (keepP S R)).ext [] b := fun b hb => GH.ext_F (.inl (GH.ext_nil hb))
      cases k with
      | fz =>
        cases k' <;> simp only [leOT] at hk <;> first | (cases hk; done) | skip
        obtain ⟨x, h1, h2⟩ := hrel
        exact ⟨x, h1, h2.mono hFe⟩
      | own ty =>
        cases k' <;> simp only [leOT] at hk <;> first | (cases hk; done) | skip
        · obtain ⟨x, h1, h2⟩ := hrel
          exact ⟨x, h1, h2.rd (fun b hb => GH.ext_F (hF b hb)) fun b hb => GH.ext_F (.inr ⟨p, 1, by simp [keepP, hS, hR], by omega, hb⟩)⟩
        · rename_i ty'
          simp only [beq_iff_eq] at hk
          subst hk
          obtain ⟨x, h1, h2⟩ := hrel
          exact ⟨x, h1, h2.mono hF (by simp [GH.drop, keepP, hS, hR])⟩
      | nil =>
        have hv0 : v = .slice none 0 0 := hrel
        subst hv0
        have hg := hnil p hS
        cases k' <;> simp only [leOT] at hk <;> first | (cases hk; done) | skip
        · exact ⟨.sl [], by simp only [eval, hg], .nil _ _ (Nat.zero_le _)⟩
        · rename_i ty
          simp only [decide_eq_true_eq] at hk
          exact ⟨.sl [], by simp only [eval, hg], .inl ⟨[], [], rfl, hk, fun x hx => by simp at hx, World.ownsRow_nil w B ty _, by simp [GH.drop, keepP, hS, hR, Value.ownBlock], fun i ck hi => by simp [flat] at hi⟩⟩
        · rfl
      | mem l =>
        cases k' <;> simp only [leOT] at hk <;> first | (cases hk; done) | skip
        rename_i l'
        obtain ⟨hl, hget⟩ := leCKs_get hk
        obtain ⟨b, vs, T, h1, h2, h3, h4, h5⟩ := hrel
        refine ⟨b, vs, T, by simp [GH.drop, h1], h2, h3, by rw [h4]; simp [hl], fun i ck hi => ?_⟩
        simp only [List.getElem?_map, List.getElem?_zipIdx, Option.map_eq_some_iff, Nat.zero_add] at hi
        obtain ⟨y, ⟨k2, hk2, rfl⟩, rfl⟩ := hi
        have hlt : i < l.length := by rw [hl]; exact (List.getElem?_eq_some_iff.1 hk2).1
        have hk1 : l[i]? = some l[i] := List.getElem?_eq_getElem hlt
        have h5i := h5 i (l[i], .m (c.ix p) i) (by simp [hlt])
        refine h5i.weak (hget i _ _ hk1 hk2) hF (fun ty ty' e1 e2 => ?_) (fun hno x hx => .inr ⟨p, i + 1, ?_, by omega, hx⟩) fun ty e1 e2 => ?_
        · simp only at e1 e2
          simp [GH.drop, keepP, hS, hR, hk1, hk2, e1, e2]
        · simp only at hno
          simp only [keepP, hS, hR, Nat.add_sub_cancel, hk1, hk2]
          cases k2 <;> first | (cases l[i] <;> rfl) | exact absurd rfl (hno _)
        · simp only at e1 e2
          simp [GH.drop, keepP, hS, hR, hk1, hk2, e1, e2]
      | clo f caps =>
        cases k' <;> simp only [leOT] at hk <;> first | (cases hk; done) | skip
        simp only [Bool.and_eq_true, beq_iff_eq] at hk
        obtain ⟨rfl, rfl⟩ := hk
        obtain ⟨vs, h1, h2, h3⟩ := hrel
        refine ⟨vs, h1, h2, fun i p hi => ?_⟩
        obtain ⟨b, h4, h5⟩ := h3 i p hi
        exact ⟨b, by simp [GH.drop, h4], h5⟩
  · intro p hp
    obtain ⟨k, hS, hk⟩ := leSS_at hle hp
    cases k <;> simp only [leOT] at hk <;> first | (cases hk; done) | exact hnil p hS
end
end Vm
