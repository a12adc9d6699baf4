/-
  Lists and variables that are written no more.
-/
import Derived.Test.YtbmgnmjghhakhaaVl
namespace Vm
open Go
open Go.RowKit (Below)
set_option linter.unusedSimpArgs false
set_option linter.unusedVariables false

theorem at_not_mem : ∀ {g : Gam} {t : Nat}, t ∉ domOf g → g.at t = ([], .no)
  | [], t, _ => rfl
  | (u, x) :: g, t, ht => by
    simp only [domOf, List.map_cons, List.mem_cons, not_or] at ht
    simp only [Gam.at]
    rw [if_neg (fun e => ht.1 e.symm)]
    exact at_not_mem ht.2
theorem at_mem : ∀ {g : Gam} {t : Nat}, t ∈ domOf g → (t, g.at t) ∈ g
  | [], t, ht => by simp [domOf] at ht
  | (u, x) :: g, t, ht => by
    simp only [Gam.at]
    by_cases hu : u = t
    · subst hu; simp
    · rw [if_neg hu]
      have : t ∈ domOf g := by
        simp only [domOf, List.map_cons, List.mem_cons] at ht
        exact ht.resolve_left fun e => hu e.symm
      exact List.mem_cons_of_mem _ (at_mem this)
theorem at_append : ∀ (a b : Gam) (t : Nat), (a ++ b).at t = if t ∈ domOf a then a.at t else b.at t
  | [], b, t => by simp [domOf]
  | (u, x) :: a, b, t => by
    simp only [List.cons_append, Gam.at]
    by_cases hu : u = t
    · subst hu; simp [domOf]
    · rw [if_neg hu, if_neg hu, at_append a b t]
      simp only [domOf, List.map_cons, List.mem_cons]
      by_cases ht : t ∈ List.map (·.1) a
      · simp [ht]
      · have : ¬ (t = u) := fun e => hu e.symm
        simp [ht, this]
theorem killD_at {ps rb fz : List Nat} {g : Gam} {t : Nat} (ht : t ∈ domOf (killD ps rb fz g)) : (killD ps rb fz g).at t = ([], .no) := by
  have := at_mem ht
  generalize (killD ps rb fz g).at t = x at this
  simp only [killD, List.mem_filterMap] at this
  obtain ⟨y, _, hy⟩ := this
  split at hy
  · simp at hy
  · simp only [Option.some.injEq, Prod.mk.injEq] at hy
    exact hy.2.symm
theorem killD_not {ps rb fz : List Nat} {g : Gam} {t : Nat} (ht : t ∉ domOf (killD ps rb fz g)) {x : Conds × TK} (hx : (t, x) ∈ g) : calm ps rb fz x.2 = true := by
  by_cases hc : calm ps rb fz x.2 = true
  · exact hc
  · exfalso
    apply ht
    simp only [domOf, killD, List.mem_map, List.mem_filterMap]
    exact ⟨(t, [], .no), ⟨(t, x), hx, by simp [hc]⟩, rfl⟩
theorem calm_no (ps rb fz : List Nat) : calm ps rb fz .no = true := by simp [calm, touches, leads, intoOne]
theorem killD_not' {ps rb fz : List Nat} {g : Gam} {t : Nat} (ht : t ∉ domOf (killD ps rb fz g)) : calm ps rb fz (g.at t).2 = true := by
  by_cases hm : t ∈ domOf g
  · exact killD_not ht (at_mem hm)
  · rw [at_not_mem hm]; exact calm_no _ _ _
theorem freezeD_dom {fz : List Nat} {g : Gam} : domOf (freezeD fz g) = fz := by
  simp only [domOf, freezeD, List.map_map]
  conv => rhs; rw [← List.map_id fz]
  rfl
theorem freezeD_at : ∀ {fz : List Nat} {g : Gam} {t : Nat}, t ∈ fz → (freezeD fz g).at t = ((g.at t).1, freezeK (g.at t).2)
  | [], g, t, ht => by simp at ht
  | p :: fz, g, t, ht => by
    simp only [freezeD, List.map_cons, Gam.at]
    by_cases hp : p = t
    · subst hp; simp
    · rw [if_neg hp]
      exact freezeD_at ((List.mem_cons.1 ht).resolve_left fun e => hp e.symm)

def GH.thaw (h : GH) (fz : List Nat) : GH := { F := fun b => h.F b ∨ ∃ p ∈ fz, ∃ i, h.bl p (i + 1) = some b, bl := fun p i => if p ∈ fz ∧ i ≠ 0 then none else h.bl p i, K := h.K }

section
variable {c : Ctx} {B : Nat} {G : Nat → Prop} {s : St} {a : Act} {w w' : World} {h h' : GH} {g : Gam} {C : Conds} {fz : List Nat}

theorem thaw_step (hok : Ok B G w h) (fz : List Nat) : Ok B G w (h.thaw fz) ∧ Step B [] [] fz w w h (h.thaw fz) := by
  refine ⟨⟨hok.base, fun b hb => ?_, fun b hb => ?_, fun b hb => .inl (hok.g_F b hb), fun t i b hb => ?_, fun t i u j b hb hb' => ?_, hok.k_lt, fun t i b hb => ?_, fun b hb => ?_⟩,
    Below.refl _ _, fun b hb _ => rfl, fun b hb => .inl hb, fun t _ ht => ?_, fun t _ => ?_, fun t i b _ ht hb => .inr ⟨t, ht, i, hb⟩, rfl⟩
  · rcases hb with hb | ⟨p, _, i, hi⟩
    · exact hok.f_lt b hb
    · exact (hok.b_lt p (i + 1) b hi).2.1
  · rcases hb with hb | ⟨p, _, i, hi⟩
    · exact hok.f_or b hb
    · exact .inr (hok.b_lt p (i + 1) b hi).1
  · simp only [GH.thaw] at hb
    split at hb
    · cases hb
    · rename_i hn
      obtain ⟨h1, h2, h3⟩ := hok.b_lt t i b hb
      refine ⟨h1, h2, fun hF => ?_⟩
      rcases hF with hF | ⟨p, hp, j, hj⟩
      · exact h3 hF
      · obtain ⟨rfl, rfl⟩ := hok.inj t i p (j + 1) b hb hj
        exact hn ⟨hp, by omega⟩
  · simp only [GH.thaw] at hb hb'
    split at hb <;> split at hb' <;> first | (cases hb; done) | (cases hb'; done) | exact hok.inj t i u j b hb hb'
  · simp only [GH.thaw] at hb
    split at hb
    · cases hb
    · exact hok.k_bl t i b hb
  · rcases hb with hb | ⟨p, _, i, hi⟩
    · exact hok.k_F b hb
    · exact .inr (hok.k_bl p (i + 1) b hi)
  · funext i; simp [GH.thaw, ht]
  · simp [GH.thaw]

theorem thaw_ext {sh : List Nat} (hsub : ∀ p ∈ sh, p ∈ fz) : ∀ b, h.ext sh b → (h.thaw fz).F b := by
  intro b hb
  rcases hb with hb | ⟨p, hp, i, hi⟩
  · exact .inl hb
  · exact .inr ⟨p, hsub p hp, i, hi⟩

theorem OwnV.one {P : Program} {o : Option Nat} {ty : TypeId} {x : V} {v : Value} (hv : OwnV P B w h o ty x v) : x.one = true := by
  rcases hv with ⟨l, xs, rfl, _⟩ | ⟨_, _, _, _, _, _, rfl, _⟩ <;> rfl
theorem RelC.freeze {P : Program} {o : Option Nat} {k : CK} {e : E} {v : Value} (hr : RelC P B s w h o k e v) (hF : Same h.F w w') (hFF : ∀ b, h.F b → h'.F b) (ho : ∀ b, o = some b → w'.heap[b]? = w.heap[b]?) (hoF : ∀ b, o = some b → h'.F b) (o' : Option Nat) :
    RelC P B s w' h' o' (frzCK k) e v := by
  cases k with
  | fz => obtain ⟨x, h0, h1, h2⟩ := hr; exact ⟨x, h0, h1, h2.keep hF hFF⟩
  | own ty =>
    obtain ⟨x, h0, h1⟩ := hr
    have h2 := h1.keep (h' := h') hF hFF ho
    exact ⟨x, h0, h2.one, h2.rd (fun b hb => hb) hoF⟩
  | nil => exact hr
  | dead => exact hr

/-- what is frozen is a value -/
theorem RelK.freeze {tm tm' : Nat → Option Value} {t : Nat} {v : Value} {k : TK} {ps rb : List Nat} (hk : RelK c.P B s w h tm t v k) (hs : Step B ps rb fz w w' h h') (hok : Ok B G w h) (hrb : ∀ t ∈ rb, t ∈ ps)
    (ht : t ∉ ps) (htf : t ∈ fz) (hcalm : calm ps rb fz k = true) (htm : ∀ p, p ∉ ps → tm' p = tm p) : RelK c.P B s w' h' tm' t v (freezeK k) := by
  have hF : Same h.F w w' := fun b hb => hs.F_same hok hb
  cases hkk : k.owning with
  | false =>
    have := hk.keep hs hok hrb ht (fun _ => hkk) hcalm htm
    cases k <;> first | exact this | simp [TK.owning] at hkk
  | true =>
    cases k <;> first | (simp [TK.owning] at hkk; done) | skip
    · rename_i ty e
      obtain ⟨x, h0, h1⟩ := hk
      have h2 := h1.keep (h' := h') hF hs.F fun b hb => hs.bl_same hok ht hb
      exact ⟨x, h0, h2.rd (fun b hb => GH.ext_F hb) fun b hb => GH.ext_F (hs.fzF t 0 b ht htf hb)⟩
    · rename_i cs
      obtain ⟨b, vs, T, h1, h2, h3, h4, h5⟩ := hk
      refine ⟨b, vs, T, by rw [hs.fz0 t (fun hr => ht (hrb t hr))]; exact h1, h2, by rw [hs.bl_same hok ht h1]; exact h3, by simpa using h4, fun i ck hi => ?_⟩
      simp only [List.getElem?_map, Option.map_eq_some_iff] at hi
      obtain ⟨ck', hi', rfl⟩ := hi
      exact (h5 i ck' hi').freeze hF hs.F (fun b hb => hs.bl_same hok ht hb) (fun b hb => hs.fzF t i b ht htf hb) _
    · rename_i cs
      obtain ⟨vs, rfl, h4⟩ := hk
      simp only [freezeK]
      split
      · trivial
      · rename_i hd
        obtain ⟨x, hx, _, hrd⟩ := h4.rd (G' := fun b => h.F b ∨ ∃ i, h.bl t (i + 1) = some b) (by simpa using hd) (fun b hb => .inl hb) (fun _ i b hb => .inr ⟨i, hb⟩)
        refine ⟨_, hx, hrd.keep (fun b hb => ?_) fun b hb => ?_⟩
        · rcases hb with hb | ⟨i, hi⟩
          · exact hF b hb
          · exact hs.bl_same hok ht hi
        · rcases hb with hb | ⟨i, hi⟩
          · exact GH.ext_F (hs.F b hb)
          · exact GH.ext_F (hs.fzF t i b ht htf hi)

/-- where a step's new entries are known, all are -/
theorem RelG.step {a' : Act} {ps rb : List Nat} {d : Gam} (hr : RelG c B G s a w h g) (hs : Step B ps rb fz w w' h h') (hok' : Ok B G w' h') (hrb : ∀ t ∈ rb, t ∈ ps) (htm : ∀ p, p ∉ ps → a'.tmps[p]? = a.tmps[p]?)
    (hps : ∀ t ∈ ps, t ∈ domOf d)
    (hd : ∀ t ∈ domOf d, (holds s (ixC c (d.at t).1) → (d.at t).2.isNo = false → ∃ v, a'.tmps[t]? = some v ∧ RelK c.P B s w' h' (fun p => a'.tmps[p]?) t v (d.at t).2) ∧ (¬ holds s (ixC c (d.at t).1) → a'.tmps.getD t undef = undef)) :
    RelG c B G s a' w' h' (d ++ killD ps rb fz g ++ freezeD fz g ++ g) := by
  have key : ∀ t, (holds s (ixC c ((d ++ killD ps rb fz g ++ freezeD fz g ++ g).at t).1) → ((d ++ killD ps rb fz g ++ freezeD fz g ++ g).at t).2.isNo = false → ∃ v, a'.tmps[t]? = some v ∧ RelK c.P B s w' h' (fun p => a'.tmps[p]?) t v ((d ++ killD ps rb fz g ++ freezeD fz g ++ g).at t).2) ∧
      (¬ holds s (ixC c ((d ++ killD ps rb fz g ++ freezeD fz g ++ g).at t).1) → a'.tmps.getD t undef = undef) := by
    intro t
    rw [at_append, at_append, at_append]
    simp only [domOf, List.map_append, List.mem_append]
    by_cases h1 : t ∈ domOf d
    · have h1' : t ∈ List.map (·.1) d := h1
      simp only [h1', true_or, if_true]
      exact hd t h1
    · have h1' : t ∉ List.map (·.1) d := h1
      by_cases h2 : t ∈ domOf (killD ps rb fz g)
      · have h2' : t ∈ List.map (·.1) (killD ps rb fz g) := h2
        simp only [h1', h2', false_or, true_or, if_true, if_false, killD_at h2]
        exact ⟨fun _ hn => by simp [TK.isNo] at hn, fun hn => absurd (holds_nil s) (by simpa [ixC] using hn)⟩
      · have h2' : t ∉ List.map (·.1) (killD ps rb fz g) := h2
        have hc := killD_not' h2
        have htp : t ∉ ps := fun hp => h1 (hps t hp)
        by_cases h3 : t ∈ fz
        · have h3' : t ∈ List.map (·.1) (freezeD fz g) := by have := freezeD_dom (fz := fz) (g := g); unfold domOf at this; rw [this]; exact h3
          simp only [h1', h2', h3', false_or, if_true, if_false, freezeD_at h3]
          refine ⟨fun hC hn => ?_, fun hn => ?_⟩
          · have hn' : (g.at t).2.isNo = false := by
              cases hk : (g.at t).2 <;> first | rfl | (rw [hk] at hn; simp [freezeK, TK.isNo] at hn)
            obtain ⟨v, hv, hk⟩ := hr.at_ t hC hn'
            exact ⟨v, by rw [htm t htp]; exact hv, hk.freeze hs hr.ok hrb htp h3 hc htm⟩
          · have := hr.skip t hn
            simp only [Array.getD_eq_getD_getElem?, htm t htp] at this ⊢
            exact this
        · have h3' : t ∉ List.map (·.1) (freezeD fz g) := by have := freezeD_dom (fz := fz) (g := g); unfold domOf at this; rw [this]; exact h3
          simp only [h1', h2', h3', false_or, if_false]
          refine ⟨fun hC hn => ?_, fun hn => ?_⟩
          · obtain ⟨v, hv, hk⟩ := hr.at_ t hC hn
            exact ⟨v, by rw [htm t htp]; exact hv, hk.keep hs hr.ok hrb htp (fun hf => absurd hf h3) hc htm⟩
          · have := hr.skip t hn
            simp only [Array.getD_eq_getD_getElem?, htm t htp] at this ⊢
            exact this
  exact ⟨hok', fun t => (key t).1, fun t => (key t).2⟩
/-- lists that are written no more -/
theorem RelG.frz (hr : RelG c B G s a w h g) (fz : List Nat) : RelG c B G s a w (h.thaw fz) (Vm.frz fz g) := by
  obtain ⟨hok, hst⟩ := thaw_step hr.ok fz
  have := hr.step (d := []) (a' := a) hst hok (fun _ h => h) (fun _ _ => rfl) (fun t ht => by simp at ht) (fun t ht => by simp [domOf] at ht)
  simpa [Vm.frz] using this
end
end Vm
