/-
  A region in terms of values, and what it comes to.
-/
import Derived.Test.YtbmgnmjghhakhaaVu
namespace Vm
open Go
open Go.RowKit (Below)
set_option linter.unusedSimpArgs false
set_option linter.unusedVariables false

def ovV (t : St) : OV → Option SV
  | .v e => (eval t e).map .v
  | .m l => (evals t l).map .m
  | .no => some .no
def wpO : List (Nat × OV) → St → St → (St → Prop) → Prop
  | [], _, u, K => K u
  | (i, o) :: l, t, u, K => match ovV t o with
    | some x => wpO l t (putS u i x) K
    | none => False
def wpC (t : St) : List (Conds × E) → Prop
  | [] => True
  | (C, e) :: l => (holdsB t C = true → (eval t e).isSome = true) ∧ wpC t l
def wpR (P : Program) (r : Reg) (s : St) (K : St → Prop) : Prop := wpE P r.efs s fun t => wpC t r.chks ∧ wpO r.outs t t K

theorem wpC_some {t : St} : ∀ {l : List (Conds × E)}, wpC t l → AllSome t l
  | [], _ => fun x hx => by simp at hx
  | (C, e) :: l, h => fun x hx hh => by
    rcases List.mem_cons.1 hx with rfl | hx
    · exact Option.isSome_iff_exists.1 (h.1 (holdsB_iff.2 hh))
    · exact wpC_some h.2 x hx hh
theorem wpO_spec {K : St → Prop} {t : St} : ∀ {l : List (Nat × OV)} {u : St}, wpO l t u K → ∃ u', K u' ∧ (∀ x ∈ l, ∃ y, ovV t x.2 = some y) ∧ (∀ j, (∀ x ∈ l, x.1 ≠ j) → get u' j = get u j) ∧
    ∀ x ∈ l, (∀ y ∈ l, y.1 = x.1 → y.2 = x.2) → ∀ v, ovV t x.2 = some v → get u' x.1 = v
  | [], u, h => ⟨u, h, fun x hx => by simp at hx, fun _ _ => rfl, fun x hx => by simp at hx⟩
  | (i, o) :: l, u, h => by
    simp only [wpO] at h
    split at h
    · rename_i v hv
      obtain ⟨u', hK, h1, h2, h3⟩ := wpO_spec h
      refine ⟨u', hK, fun x hx => ?_, fun j hj => ?_, fun x hx hun v' hv' => ?_⟩
      · rcases List.mem_cons.1 hx with rfl | hx
        · exact ⟨v, hv⟩
        · exact h1 x hx
      · rw [h2 j fun x hx => hj x (by simp [hx]), get_putS, if_neg]
        exact fun e => hj (i, o) (by simp) e.symm
      · by_cases hin : ∃ y ∈ l, y.1 = x.1
        · obtain ⟨y, hy, hyx⟩ := hin
          have hyo := hun y (by simp [hy]) hyx
          have := h3 y hy (fun z hz hzy => by rw [hyo]; exact hun z (by simp [hz]) (hzy.trans hyx)) v' (by rw [hyo]; exact hv')
          rw [← hyx]; exact this
        · have hxi : x = (i, o) := by
            rcases List.mem_cons.1 hx with h | h
            · exact h
            · exact absurd ⟨x, h, rfl⟩ hin
          subst hxi
          rw [h2 i fun y hy e => hin ⟨y, hy, e⟩, get_putS, if_pos rfl]
          rw [hv] at hv'; cases hv'; rfl
    · exact h.elim

section
variable {c : Ctx} {B : Nat} {G : Nat → Prop} {s t u : St} {a a' : Act} {w w' : World} {h h' : GH} {g : Gam} {S : SS}

theorem RelG.ctx {c' : Ctx} (hP : c'.P = c.P) (hix : c'.ix = c.ix) (hr : RelG c B G s a w h g) : RelG c' B G s a w h g := by
  have hC : ∀ C, ixC c' C = ixC c C := fun C => by simp [ixC, hix]
  refine ⟨hr.ok, fun p hh hn => ?_, fun p hh => ?_⟩
  · rw [hC] at hh; rw [hP]; exact hr.at_ p hh hn
  · rw [hC] at hh; exact hr.skip p hh
theorem entry_at : ∀ {S : SS} {p : Nat}, (entry c S).at p = match S.at p with | some k => ([], entryK c p k) | none => ([], .no)
  | [], p => rfl
  | (q, k) :: S, p => by
    simp only [entry, List.map_cons, Gam.at, SS.at]
    by_cases hq : q = p
    · subst hq; simp
    · rw [if_neg hq, if_neg hq]
      exact entry_at (S := S) (p := p)
theorem RelC.eval {P : Program} {o : Option Nat} {k : CK} {e e' : E} {v : Value} (hr : RelC P B s w h o k e v) (he : ∀ x, x.one = true → Vm.eval s e = some x → Vm.eval t e' = some x) : RelC P B t w h o k e' v := by
  cases k with
  | fz => obtain ⟨x, h0, h1, h2⟩ := hr; exact ⟨x, he x h1 h0, h1, h2⟩
  | own ty => obtain ⟨x, h0, h1⟩ := hr; exact ⟨x, he x h1.one h0, h1⟩
  | nil => exact ⟨hr.1, he _ rfl hr.2⟩
  | dead => exact hr
/-- a state that agrees at the slots that are kept -/
theorem RelG.agree (hr : RelG c B G s a w h (entry c S)) (hag : ∀ x ∈ S, get t (c.ix x.1) = get s (c.ix x.1)) : RelG c B G t a w h (entry c S) := by
  have hmem : ∀ {S : SS} {p : Nat} {k : OT}, S.at p = some k → (p, k) ∈ S := by
    intro S p k
    induction S with
    | nil => intro h; cases h
    | cons x S ih =>
      obtain ⟨q, k'⟩ := x
      intro h
      simp only [SS.at] at h
      split at h
      · rename_i e; subst e; cases h; simp
      · exact List.mem_cons_of_mem _ (ih h)
  have hcond : ∀ p, ((entry c S).at p).1 = [] := fun p => by rw [entry_at]; cases S.at p <;> rfl
  refine ⟨hr.ok, fun p _ hn => ?_, fun p hh => absurd (by rw [hcond p]; exact holds_ix0 t c) hh⟩
  obtain ⟨v, hv, hk⟩ := hr.at_ p (by rw [hcond p]; exact holds_ix0 s c) hn
  refine ⟨v, hv, ?_⟩
  rw [entry_at] at hk ⊢
  cases hS : S.at p with
  | none => trivial
  | some k =>
    rw [hS] at hk
    have hg := hag _ (hmem hS)
    simp only at hg hk ⊢
    cases k with
    | fz => obtain ⟨x, h1, h2⟩ := hk; exact ⟨x, by simp only [Vm.eval, hg] at h1 ⊢; exact h1, h2⟩
    | own ty => obtain ⟨x, h1, h2⟩ := hk; exact ⟨x, by simp only [Vm.eval, hg] at h1 ⊢; exact h1, h2⟩
    | nil => exact hk
    | mem l =>
      obtain ⟨b, vs, T, h1, h2, h3, h4, h5⟩ := hk
      refine ⟨b, vs, T, h1, h2, h3, h4, fun i ck hi => (h5 i ck hi).eval fun x _ hx => ?_⟩
      simp only [List.getElem?_map, Option.map_eq_some_iff] at hi
      obtain ⟨y, _, rfl⟩ := hi
      simp only [Vm.eval, hg] at hx ⊢
      exact hx
    | clo f caps => exact hk

theorem outSS_at {keep : List Nat} : ∀ {p : Nat} {k : OT}, (outSS keep g).at p = some k → p ∈ keep ∧ (g.at p).1 = [] ∧ outK (g.at p).2 = some k := by
  induction keep with
  | nil => intro p k h; cases h
  | cons q keep ih =>
    intro p k h
    simp only [outSS, List.filterMap_cons] at h
    split at h
    · obtain ⟨h1, h2⟩ := ih (p := p) (k := k) h
      exact ⟨List.mem_cons_of_mem _ h1, h2⟩
    · rename_i y hy
      split at hy
      · rename_i hc
        simp only [Option.map_eq_some_iff] at hy
        obtain ⟨k', hk', rfl⟩ := hy
        simp only [SS.at] at h
        split at h
        · rename_i e; subst e; cases h
          exact ⟨by simp, by simpa using hc, hk'⟩
        · obtain ⟨h1, h2⟩ := ih (p := p) (k := k) h
          exact ⟨List.mem_cons_of_mem _ h1, h2⟩
      · cases hy

def TK.kept : TK → Bool
  | .val .. | .own .. | .mem _ => true
  | _ => false
theorem outOne_case {S0 : SS} {p : Nat} (hc : (g.at p).1 = []) (hk : (g.at p).2.kept = true) : outOne c S0 g p = if sameOV (c.ix p) (ovK (g.at p).2) = true then none else some (c.ix p, ovK (g.at p).2) := by
  unfold outOne
  simp only [hc, List.isEmpty_nil, if_true]
  cases hs : sameOV (c.ix p) (ovK (g.at p).2)
  · simp only [Bool.false_eq_true, if_false]
    cases hkk : (g.at p).2 <;> rw [hkk] at hk <;> simp only [TK.kept] at hk <;> first | (cases hk; done) | skip
    all_goals
      cases S0.at p with
      | none => rfl
      | some k => cases k <;> rfl
  · simp only [if_true]
/-- behind a region: its kinds, told of the new state -/
theorem region_outs {keep sh : List Nat} {S0 : SS} (hr : RelG c B G t a w h g) (hsh : ∀ p ∈ keep, ∀ e l, g.at p = ([], .val e l) → ∀ b, h.ext l b → h.F b)
    (hget : ∀ p ∈ keep, match outOne c S0 g p with | some x => ∃ v, ovV t x.2 = some v ∧ get u (c.ix p) = v | none => get u (c.ix p) = get t (c.ix p)) : RelG c B G u a w h (entry c (outSS keep g)) := by
  have hcond : ∀ p, ((entry c (outSS keep g)).at p).1 = [] := fun p => by rw [entry_at]; cases (outSS keep g).at p <;> rfl
  refine ⟨hr.ok, fun p _ hn => ?_, fun p hh => absurd (by rw [hcond p]; exact holds_ix0 u c) hh⟩
  rw [entry_at] at hn ⊢
  cases hS : (outSS keep g).at p with
  | none => rw [hS] at hn; simp [TK.isNo] at hn
  | some k =>
    obtain ⟨hpk, hc0, hk⟩ := outSS_at hS
    have hno : (g.at p).2.isNo = false := by cases hkk : (g.at p).2 <;> rw [hkk] at hk <;> first | rfl | simp [outK] at hk
    obtain ⟨v, hv, hrel⟩ := hr.at_ p (by rw [hc0]; exact holds_ix0 t c) hno
    refine ⟨v, hv, ?_⟩
    have hgp : (g.at p).2.kept = true → (sameOV (c.ix p) (ovK (g.at p).2) = true ∧ get u (c.ix p) = get t (c.ix p)) ∨ ∃ v, ovV t (ovK (g.at p).2) = some v ∧ get u (c.ix p) = v := by
      intro hkept
      have h1 := hget p hpk
      rw [outOne_case hc0 hkept] at h1
      by_cases hs : sameOV (c.ix p) (ovK (g.at p).2) = true
      · rw [if_pos hs] at h1; exact .inl ⟨hs, h1⟩
      · rw [if_neg hs] at h1; exact .inr h1
    simp only
    cases hkk : (g.at p).2 with
    | val e l =>
      rw [hkk] at hk hrel hgp
      simp only [outK, Option.some.injEq] at hk
      subst hk
      obtain ⟨x, hx, hxr⟩ := hrel
      have hF := hsh p hpk e l (by rw [← hkk, ← hc0])
      refine ⟨x, ?_, hxr.mono fun b hb => GH.ext_F (hF b hb)⟩
      simp only [Vm.eval]
      rcases hgp rfl with ⟨hs, hg⟩ | ⟨v', h1, h2⟩
      · simp only [ovK] at hs
        cases e <;> simp only [sameOV] at hs <;> first | (cases hs; done) | skip
        simp only [beq_iff_eq] at hs
        subst hs
        rw [hg]
        simpa only [Vm.eval] using hx
      · simp only [ovK, ovV, hx, Option.map_some, Option.some.injEq] at h1
        subst h1
        rw [h2]
    | own ty e =>
      rw [hkk] at hk hrel hgp
      simp only [outK, Option.some.injEq] at hk
      subst hk
      obtain ⟨x, hx, hxr⟩ := hrel
      refine ⟨x, ?_, hxr⟩
      simp only [Vm.eval]
      rcases hgp rfl with ⟨hs, hg⟩ | ⟨v', h1, h2⟩
      · simp only [ovK] at hs
        cases e <;> simp only [sameOV] at hs <;> first | (cases hs; done) | skip
        simp only [beq_iff_eq] at hs
        subst hs
        rw [hg]
        simpa only [Vm.eval] using hx
      · simp only [ovK, ovV, hx, Option.map_some, Option.some.injEq] at h1
        subst h1
        rw [h2]
    | nil =>
      rw [hkk] at hk hrel
      simp only [outK, Option.some.injEq] at hk
      subst hk
      exact hrel
    | mem cs =>
      rw [hkk] at hk hrel hgp
      simp only [outK, Option.some.injEq] at hk
      subst hk
      obtain ⟨b, vs, T, h1, h2, h3, h4, h5⟩ := hrel
      refine ⟨b, vs, T, h1, h2, h3, by simpa using h4, fun i ck hi => ?_⟩
      simp only [List.getElem?_map, List.getElem?_zipIdx, Option.map_eq_some_iff] at hi
      obtain ⟨y, ⟨q, ⟨ck0, hck0, rfl⟩, rfl⟩, rfl⟩ := hi
      refine (h5 i ck0 hck0).eval fun x hx1 hx => ?_
      simp only [Nat.zero_add, Vm.eval]
      rcases hgp rfl with ⟨hs, hg⟩ | ⟨v', e1, e2⟩
      · simp only [ovK, sameOV, List.all_eq_true] at hs
        have := hs (ck0.2, i) (List.mem_iff_getElem?.2 ⟨i, by rw [List.getElem?_zipIdx, List.getElem?_map, hck0]; simp⟩)
        obtain ⟨kk, e⟩ := ck0
        cases e <;> simp only at this <;> first | (cases this; done) | skip
        simp only [Bool.and_eq_true, beq_iff_eq] at this
        obtain ⟨rfl, rfl⟩ := this
        rw [hg]
        simpa only [Vm.eval] using hx
      · simp only [ovK, ovV, Option.map_eq_some_iff] at e1
        obtain ⟨xs, hxs, rfl⟩ := e1
        obtain ⟨_, hget⟩ := evals_map hxs
        obtain ⟨z, hz, hze⟩ := hget i ck0.2 (by rw [List.getElem?_map, hck0]; rfl)
        rw [hx] at hze; cases hze
        rw [e2]
        simp only [hz, Option.bind_some]
        unfold oneV
        rw [if_pos hx1]
    | no => rw [hkk] at hk; simp [outK] at hk
    | ags cs => rw [hkk] at hk; simp [outK] at hk
    | ref p => rw [hkk] at hk; simp [outK] at hk
    | refm p i => rw [hkk] at hk; simp [outK] at hk
    | pm p o => rw [hkk] at hk; simp [outK] at hk
    | pc e o sh => rw [hkk] at hk; simp [outK] at hk
    | pe p i j o k => rw [hkk] at hk; simp [outK] at hk
    | pa p o j n k => rw [hkk] at hk; simp [outK] at hk
    | clo f caps =>
      rw [hkk] at hk hrel
      simp only [outK, Option.some.injEq] at hk
      subst hk
      exact hrel
end
end Vm
