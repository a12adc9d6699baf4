/-
  What a region tells in terms of values: effects, checks, outs.
-/
import Derived.Test.YtbmgnmjghhakhaaVt
namespace Vm
open Go
set_option linter.unusedSimpArgs false
set_option linter.unusedVariables false

section
variable {s t : St}
theorem bind_some' {α β : Type} {x : Option α} {f : α → Option β} (h : ∃ z, x.bind f = some z) : ∃ y, x = some y := by
  obtain ⟨z, hz⟩ := h
  rw [Option.bind_eq_some_iff] at hz
  obtain ⟨y, hy, _⟩ := hz
  exact ⟨y, hy⟩
theorem bind_some2 {α β : Type} {x : Option α} {f : α → Option β} (h : ∃ z, x.bind f = some z) : ∃ y, x = some y ∧ ∃ z, f y = some z := by
  obtain ⟨z, hz⟩ := h
  rw [Option.bind_eq_some_iff] at hz
  obtain ⟨y, hy, hz⟩ := hz
  exact ⟨y, hy, z, hz⟩
mutual
/-- a part has a value where the whole has one -/
theorem has_eval {x : E} : ∀ (e : E), E.has x e = true → (∃ v, eval s e = some v) → ∃ v, eval s x = some v
  | .c v, h, hv => by
    simp only [E.has] at h
    rw [E.same_eq _ _ h]; exact hv
  | .s u, h, hv => by
    simp only [E.has] at h
    rw [E.same_eq _ _ h]; exact hv
  | .m u i, h, hv => by
    simp only [E.has] at h
    rw [E.same_eq _ _ h]; exact hv
  | .mm u i n, h, hv => by
    simp only [E.has] at h
    rw [E.same_eq _ _ h]; exact hv
  | .bin op a b, h, hv => by
    simp only [E.has, Bool.or_eq_true] at h
    rcases h with (h | h) | h
    · rw [E.same_eq _ _ h]; exact hv
    · exact has_eval a h (bind_some' hv)
    · obtain ⟨y, _, hz⟩ := bind_some2 hv; exact has_eval b h (bind_some' hz)
  | .eqv op a b, h, hv => by
    simp only [E.has, Bool.or_eq_true] at h
    rcases h with (h | h) | h
    · rw [E.same_eq _ _ h]; exact hv
    · exact has_eval a h (bind_some' hv)
    · obtain ⟨y, _, hz⟩ := bind_some2 hv; exact has_eval b h (bind_some' hz)
  | .mn a b, h, hv => by
    simp only [E.has, Bool.or_eq_true] at h
    rcases h with (h | h) | h
    · rw [E.same_eq _ _ h]; exact hv
    · exact has_eval a h (bind_some' hv)
    · obtain ⟨y, _, hz⟩ := bind_some2 hv; exact has_eval b h (bind_some' hz)
  | .mx a b, h, hv => by
    simp only [E.has, Bool.or_eq_true] at h
    rcases h with (h | h) | h
    · rw [E.same_eq _ _ h]; exact hv
    · exact has_eval a h (bind_some' hv)
    · obtain ⟨y, _, hz⟩ := bind_some2 hv; exact has_eval b h (bind_some' hz)
  | .idx a b k, h, hv => by
    simp only [E.has, Bool.or_eq_true] at h
    rcases h with (h | h) | h
    · rw [E.same_eq _ _ h]; exact hv
    · exact has_eval a h (bind_some' hv)
    · obtain ⟨y, _, hz⟩ := bind_some2 hv; exact has_eval b h (bind_some' hz)
  | .ai a b n k g, h, hv => by
    simp only [E.has, Bool.or_eq_true] at h
    rcases h with (h | h) | h
    · rw [E.same_eq _ _ h]; exact hv
    · exact has_eval a h (bind_some' hv)
    · obtain ⟨y, _, hz⟩ := bind_some2 hv; exact has_eval b h (bind_some' hz)
  | .slcl a b k, h, hv => by
    simp only [E.has, Bool.or_eq_true] at h
    rcases h with (h | h) | h
    · rw [E.same_eq _ _ h]; exact hv
    · exact has_eval a h (bind_some' hv)
    · obtain ⟨y, _, hz⟩ := bind_some2 hv; exact has_eval b h (bind_some' hz)
  | .app a b k, h, hv => by
    simp only [E.has, Bool.or_eq_true] at h
    rcases h with (h | h) | h
    · rw [E.same_eq _ _ h]; exact hv
    · exact has_eval a h (bind_some' hv)
    · obtain ⟨y, _, hz⟩ := bind_some2 hv; exact has_eval b h (bind_some' hz)
  | .slc a b d k, h, hv => by
    simp only [E.has, Bool.or_eq_true] at h
    rcases h with ((h | h) | h) | h
    · rw [E.same_eq _ _ h]; exact hv
    · exact has_eval a h (bind_some' hv)
    · obtain ⟨y, _, hz⟩ := bind_some2 hv; exact has_eval b h (bind_some' hz)
    · obtain ⟨y, _, hz⟩ := bind_some2 hv; obtain ⟨y', _, hz'⟩ := bind_some2 hz; exact has_eval d h (bind_some' hz')
  | .upd a b o d, h, hv => by
    simp only [E.has, Bool.or_eq_true] at h
    rcases h with ((h | h) | h) | h
    · rw [E.same_eq _ _ h]; exact hv
    · exact has_eval a h (bind_some' hv)
    · obtain ⟨y, _, hz⟩ := bind_some2 hv; exact has_eval b h (bind_some' hz)
    · obtain ⟨y, _, hz⟩ := bind_some2 hv; obtain ⟨y', _, hz'⟩ := bind_some2 hz; exact has_eval d h (bind_some' hz')
  | .aput a b n k d, h, hv => by
    simp only [E.has, Bool.or_eq_true] at h
    rcases h with ((h | h) | h) | h
    · rw [E.same_eq _ _ h]; exact hv
    · exact has_eval a h (bind_some' hv)
    · obtain ⟨y, _, hz⟩ := bind_some2 hv; exact has_eval b h (bind_some' hz)
    · obtain ⟨y, _, hz⟩ := bind_some2 hv; obtain ⟨y', _, hz'⟩ := bind_some2 hz; exact has_eval d h (bind_some' hz')
  | .un op a, h, hv => by
    simp only [E.has, Bool.or_eq_true] at h
    rcases h with h | h
    · rw [E.same_eq _ _ h]; exact hv
    · exact has_eval a h (bind_some' hv)
  | .conv k a, h, hv => by
    simp only [E.has, Bool.or_eq_true] at h
    rcases h with h | h
    · rw [E.same_eq _ _ h]; exact hv
    · exact has_eval a h (bind_some' hv)
  | .len a, h, hv => by
    simp only [E.has, Bool.or_eq_true] at h
    rcases h with h | h
    · rw [E.same_eq _ _ h]; exact hv
    · exact has_eval a h (bind_some' hv)
  | .ext a i, h, hv => by
    simp only [E.has, Bool.or_eq_true] at h
    rcases h with h | h
    · rw [E.same_eq _ _ h]; exact hv
    · exact has_eval a h (bind_some' hv)
  | .fld a o, h, hv => by
    simp only [E.has, Bool.or_eq_true] at h
    rcases h with h | h
    · rw [E.same_eq _ _ h]; exact hv
    · exact has_eval a h (bind_some' hv)
  | .flds a o n, h, hv => by
    simp only [E.has, Bool.or_eq_true] at h
    rcases h with h | h
    · rw [E.same_eq _ _ h]; exact hv
    · exact has_eval a h (bind_some' hv)
  | .mk z a, h, hv => by
    simp only [E.has, Bool.or_eq_true] at h
    rcases h with h | h
    · rw [E.same_eq _ _ h]; exact hv
    · exact has_eval a h (bind_some' hv)
  | .star a, h, hv => by
    simp only [E.has, Bool.or_eq_true] at h
    rcases h with h | h
    · rw [E.same_eq _ _ h]; exact hv
    · exact has_eval a h (bind_some' hv)
  | .isag a, h, hv => by
    simp only [E.has, Bool.or_eq_true] at h
    rcases h with h | h
    · rw [E.same_eq _ _ h]; exact hv
    · exact has_eval a h (bind_some' hv)
  | .one a, h, hv => by
    simp only [E.has, Bool.or_eq_true] at h
    rcases h with h | h
    · rw [E.same_eq _ _ h]; exact hv
    · exact has_eval a h (bind_some' hv)
  | .sz a n, h, hv => by
    simp only [E.has, Bool.or_eq_true] at h
    rcases h with h | h
    · rw [E.same_eq _ _ h]; exact hv
    · exact has_eval a h (bind_some' hv)
  | .fl a, h, hv => by
    simp only [E.has, Bool.or_eq_true] at h
    rcases h with h | h
    · rw [E.same_eq _ _ h]; exact hv
    · exact has_eval a h (bind_some' hv)
  | .fls a, h, hv => by
    simp only [E.has, Bool.or_eq_true] at h
    rcases h with h | h
    · rw [E.same_eq _ _ h]; exact hv
    · exact has_eval a h (bind_some' hv)
  | .mlen a, h, hv => by
    simp only [E.has, Bool.or_eq_true] at h
    rcases h with h | h
    · rw [E.same_eq _ _ h]; exact hv
    · exact has_eval a h (bind_some' hv)
  | .mclr a, h, hv => by
    simp only [E.has, Bool.or_eq_true] at h
    rcases h with h | h
    · rw [E.same_eq _ _ h]; exact hv
    · exact has_eval a h (bind_some' hv)
  | .lk kc a b z ok, h, hv => by
    simp only [E.has, Bool.or_eq_true] at h
    rcases h with (h | h) | h
    · rw [E.same_eq _ _ h]; exact hv
    · exact has_eval a h (bind_some' hv)
    · obtain ⟨y, _, hz⟩ := bind_some2 hv; exact has_eval b h (bind_some' hz)
  | .mput kc a b d, h, hv => by
    simp only [E.has, Bool.or_eq_true] at h
    rcases h with ((h | h) | h) | h
    · rw [E.same_eq _ _ h]; exact hv
    · exact has_eval a h (bind_some' hv)
    · obtain ⟨y, _, hz⟩ := bind_some2 hv; exact has_eval b h (bind_some' hz)
    · obtain ⟨y, _, hz⟩ := bind_some2 hv; obtain ⟨y', _, hz'⟩ := bind_some2 hz; exact has_eval d h (bind_some' hz')
  | .ite a b d, h, hv => by
    simp only [E.has, Bool.or_eq_true] at h
    rcases h with h | h
    · rw [E.same_eq _ _ h]; exact hv
    · exact has_eval a h (bind_some' hv)
  | .lit l, h, hv => by
    simp only [E.has, Bool.or_eq_true] at h
    rcases h with h | h
    · rw [E.same_eq _ _ h]; exact hv
    · obtain ⟨v, hv⟩ := hv
      simp only [eval, Option.map_eq_some_iff] at hv
      obtain ⟨ys, hys, _⟩ := hv
      exact has_evals l h ⟨ys, hys⟩
  | .ag l, h, hv => by
    simp only [E.has, Bool.or_eq_true] at h
    rcases h with h | h
    · rw [E.same_eq _ _ h]; exact hv
    · obtain ⟨v, hv⟩ := hv
      simp only [eval, Option.map_eq_some_iff] at hv
      obtain ⟨ys, hys, _⟩ := hv
      exact has_evals l h ⟨ys, hys⟩
theorem has_evals {x : E} : ∀ (l : List E), E.hasIn x l = true → (∃ v, evals s l = some v) → ∃ v, eval s x = some v
  | [], h, _ => by simp [E.hasIn] at h
  | e :: l, h, hv => by
    obtain ⟨v, hv⟩ := hv
    simp only [evals, Option.bind_eq_some_iff, Option.map_eq_some_iff] at hv
    obtain ⟨y, hy, ys, hys, _⟩ := hv
    simp only [E.hasIn, Bool.or_eq_true] at h
    rcases h with h | h
    · exact has_eval e h ⟨y, hy⟩
    · exact has_evals l h ⟨ys, hys⟩
end

/-- all of these have values, where their conditions hold -/
def AllSome (s : St) (l : List (Conds × E)) : Prop := ∀ x ∈ l, holds s x.1 → ∃ v, eval s x.2 = some v
theorem holds_sub {C D : Conds} (h : condsIn C D = true) (hd : holds s D) : holds s C := fun x hx => by
  have := List.all_eq_true.1 h x hx
  exact hd x (by simpa using this)
theorem prune_sound : ∀ {l r : List (Conds × E)}, AllSome s l → AllSome s (prune l r) → AllSome s r
  | l, [], _, _ => fun x hx => by simp at hx
  | l, x :: r, hl, hp => by
    simp only [prune] at hp
    split at hp
    · rename_i hc
      have hr := prune_sound hl hp
      intro y hy hh
      rcases List.mem_cons.1 hy with rfl | hy
      · simp only [covered, List.any_eq_true, Bool.and_eq_true] at hc
        obtain ⟨z, hz, hz1, hz2⟩ := hc
        have hzs : ∃ v, eval s z.2 = some v := by
          rcases List.mem_append.1 hz with hz | hz
          · exact hl z hz (holds_sub hz1 hh)
          · exact hp z hz (holds_sub hz1 hh)
        exact has_eval _ hz2 hzs
      · exact hr y hy hh
    · have hr := prune_sound hl fun y hy => hp y (List.mem_cons_of_mem _ hy)
      intro y hy hh
      rcases List.mem_cons.1 hy with rfl | hy
      · exact hp y (List.mem_cons_self ..) hh
      · exact hr y hy hh

/-! ### Effects, one behind the other -/
def putS : St → Nat → SV → St
  | [], 0, x => [x]
  | [], i + 1, x => .no :: putS [] i x
  | _ :: s, 0, x => x :: s
  | y :: s, i + 1, x => y :: putS s i x
theorem get_putS : ∀ (s : St) (i j : Nat) (x : SV), get (putS s i x) j = if j = i then x else get s j
  | [], 0, 0, x => rfl
  | [], 0, j + 1, x => by simp [putS, get]
  | [], i + 1, 0, x => by simp [putS, get]
  | [], i + 1, j + 1, x => by
    have := get_putS [] i j x
    simp only [get] at this
    simp [putS, get, this]
  | y :: s, 0, 0, x => rfl
  | y :: s, 0, j + 1, x => by simp [putS, get]
  | y :: s, i + 1, 0, x => by simp [putS, get]
  | y :: s, i + 1, j + 1, x => by
    have := get_putS s i j x
    simp only [get] at this
    simp [putS, get, this]
def holdsB (s : St) (C : Conds) : Bool := C.all fun x => match get s x.1 with | .v (.bool b) => b == x.2 | _ => false
theorem holdsB_iff {C : Conds} : holdsB s C = true ↔ holds s C := by
  simp only [holdsB, List.all_eq_true, holds]
  constructor
  · intro h x hx
    have := h x hx
    split at this
    · rename_i b hb
      simp only [beq_iff_eq] at this
      rw [hb, this]
    · cases this
  · intro h x hx
    rw [h x hx]; simp
def wpE (P : Program) : List EF → St → (St → Prop) → Prop
  | [], s, K => K s
  | .lt i C e :: l, s, K => if holdsB s C = true then (match eval s e with | some x => wpE P l (putS s i (.v x)) K | none => False) else wpE P l s K
  | .call i C f fr fl as :: l, s, K => if holdsB s C = true then (match evals s as with | some xs => ∃ r, VC P f fr xs r ∧ (fl = true → flV r = some r) ∧ wpE P l (putS s i (.v r)) K | none => False) else wpE P l s K
  | .callm i C f ks as :: l, s, K => if holdsB s C = true then (match evals s as, fnOf s f with | some xs, some n => ∃ R, VCM P n ks xs R ∧ wpE P l (putS s i (.v R)) K | _, _ => False)
      else (match oldV s ks as with | some [] => wpE P l s K | some os => wpE P l (putS s i (.v (.tup (.bool false :: os)))) K | none => False)

theorem holds_agree {C : Conds} (h : ∀ j, C.any (fun x => x.1 == j) = true → get s j = get t j) : holds s C ↔ holds t C := by
  have : ∀ x ∈ C, get s x.1 = get t x.1 := fun x hx => h x.1 (List.any_eq_true.2 ⟨x, hx, by simp⟩)
  constructor
  · intro hs x hx; rw [← this x hx]; exact hs x hx
  · intro hs x hx; rw [this x hx]; exact hs x hx
theorem evals_append {l r : List E} : evals s (l ++ r) = (evals s l).bind fun x => (evals s r).map (x ++ ·) := by
  induction l with
  | nil => simp [evals]
  | cons e l ih =>
    simp only [List.cons_append, evals, ih]
    cases eval s e <;> cases evals s l <;> simp <;> cases evals s r <;> simp
theorem asksIn_append {j : Nat} {l r : List E} : E.asksIn j (l ++ r) = (E.asksIn j l || E.asksIn j r) := by
  induction l with
  | nil => simp [E.asksIn]
  | cons e l ih => simp [E.asksIn, ih, Bool.or_assoc]
theorem fnOf_agree {f : FN} (h : ∀ j, E.asksIn j f.es = true → get s j = get t j) : fnOf s f = fnOf t f := by
  cases f with
  | id n => rfl
  | e x => simp only [fnOf]; rw [eval_agree x fun j hj => h j (by simp [FN.es, E.asksIn, hj])]
theorem oldV_agree : ∀ {ks : List OT} {as : List E}, (∀ j, E.asksIn j as = true → get s j = get t j) → oldV s ks as = oldV t ks as
  | [], as, _ => by simp [oldV]
  | k :: ks, [], _ => by cases k <;> simp [oldV]
  | k :: ks, e :: as, h => by
    have ih := oldV_agree (ks := ks) (as := as) fun j hj => h j (by simp [E.asksIn, hj])
    have he := eval_agree e fun j hj => h j (by simp [E.asksIn, hj])
    cases k <;> simp only [oldV, ih, he]
/-- an effect told at a state is told at every state that agrees where it asks -/
theorem EFok_agree {P : Program} {x : EF} (h : ∀ j, efAsks j x = true → get s j = get t j) (hi : get s (efI x) = get t (efI x)) (hs : EFok P s x) : EFok P t x := by
  cases x with
  | lt i C e =>
    intro hh
    have h1 := (holds_agree (s := s) (t := t) (C := C) fun j hj => h j (by simp only [efAsks, hj, Bool.true_or])).2 hh
    obtain ⟨v, hv, hg⟩ := hs h1
    exact ⟨v, by rw [← eval_agree e fun j hj => h j (by simp only [efAsks, hj, Bool.or_true])]; exact hv, by rw [← hg]; exact hi.symm⟩
  | call i C f fr fl as =>
    intro hh
    have h1 := (holds_agree (s := s) (t := t) (C := C) fun j hj => h j (by simp only [efAsks, hj, Bool.true_or])).2 hh
    obtain ⟨xs, r, hv, h2, h3, hg⟩ := hs h1
    exact ⟨xs, r, by rw [← evals_agree as fun j hj => h j (by simp only [efAsks, hj, Bool.or_true])]; exact hv, h2, h3, by rw [← hg]; exact hi.symm⟩
  | callm i C f ks as =>
    have hC := holds_agree (s := s) (t := t) (C := C) fun j hj => h j (by simp only [efAsks, hj, Bool.true_or])
    have ha := evals_agree as fun j hj => h j (by simp only [efAsks, asksIn_append, hj, Bool.or_true])
    have hf := fnOf_agree (f := f) fun j hj => h j (by simp only [efAsks, asksIn_append, hj, Bool.true_or, Bool.or_true])
    have ho := oldV_agree (ks := ks) (as := as) fun j hj => h j (by simp only [efAsks, asksIn_append, hj, Bool.or_true])
    refine ⟨fun hh => ?_, fun hh => ?_⟩
    · obtain ⟨xs, n, R, h1, h2, h3, h4⟩ := hs.1 (hC.2 hh)
      exact ⟨xs, n, R, by rw [← ha]; exact h1, by rw [← hf]; exact h2, h3, by rw [← h4]; exact hi.symm⟩
    · obtain ⟨os, h1, h2⟩ := hs.2 fun h' => hh (hC.1 h')
      exact ⟨os, by rw [← ho]; exact h1, fun hne => by rw [← h2 hne]; exact hi.symm⟩

theorem wpE_sound {P : Program} {K : St → Prop} : ∀ {l : List EF} {s : St}, okEfs l = true → wpE P l s K → ∃ t, K t ∧ (∀ x ∈ l, EFok P t x) ∧ ∀ j, (∀ x ∈ l, efI x ≠ j) → get t j = get s j
  | [], s, _, h => ⟨s, h, fun x hx => by simp at hx, fun _ _ => rfl⟩
  | x :: l, s, hok, h => by
    simp only [okEfs, Bool.and_eq_true, Bool.not_eq_true', List.all_eq_true, bne_iff_ne, ne_eq] at hok
    obtain ⟨⟨hself, hl⟩, hok⟩ := hok
    -- one effect, and then the others
    have fin : ∀ (s1 : St), (∀ j, j ≠ efI x → get s1 j = get s j) → EFok P s1 x → wpE P l s1 K → ∃ t, K t ∧ (∀ y ∈ x :: l, EFok P t y) ∧ ∀ j, (∀ y ∈ x :: l, efI y ≠ j) → get t j = get s j := by
      intro s1 hs1 hx h
      obtain ⟨t, hK, hall, hag⟩ := wpE_sound hok h
      refine ⟨t, hK, fun y hy => ?_, fun j hj => ?_⟩
      · rcases List.mem_cons.1 hy with rfl | hy
        · refine EFok_agree (s := s1) (fun j hj => (hag j fun y hy e => ?_).symm) (hag _ fun y hy e => (hl y hy).1 e).symm hx
          subst e
          have := (hl y hy).2
          rw [hj] at this; cases this
        · exact hall y hy
      · rw [hag j fun y hy => hj y (by simp [hy]), hs1 j fun e => hj x (by simp) e.symm]
    cases x with
    | lt i C e =>
      simp only [wpE] at h
      have hask : ∀ (v : SV) (j : Nat), efAsks j (.lt i C e) = true → get (putS s i v) j = get s j := fun v j hj => by
        rw [get_putS, if_neg]
        intro e'; subst e'
        exact absurd hj (by rw [show efAsks j (.lt j C e) = false from hself]; simp)
      split at h
      · rename_i hh
        split at h
        · rename_i v hv
          refine fin (putS s i (.v v)) (fun j hj => by rw [get_putS]; exact if_neg hj) (fun _ => ⟨v, ?_, by rw [get_putS, if_pos rfl]⟩) h
          rw [eval_agree e fun j hj => hask _ j (by simp only [efAsks, hj, Bool.or_true])]; exact hv
        · exact h.elim
      · rename_i hh
        exact fin s (fun _ _ => rfl) (fun hc => absurd (holdsB_iff.2 hc) hh) h
    | call i C f fr fl as =>
      simp only [wpE] at h
      have hask : ∀ (v : SV) (j : Nat), efAsks j (.call i C f fr fl as) = true → get (putS s i v) j = get s j := fun v j hj => by
        rw [get_putS, if_neg]
        intro e'; subst e'
        exact absurd hj (by rw [show efAsks j (.call j C f fr fl as) = false from hself]; simp)
      split at h
      · rename_i hh
        split at h
        · rename_i xs hxs
          obtain ⟨r, h1, h2, h3⟩ := h
          refine fin (putS s i (.v r)) (fun j hj => by rw [get_putS]; exact if_neg hj) (fun _ => ⟨xs, r, ?_, h1, h2, by rw [get_putS, if_pos rfl]⟩) h3
          rw [evals_agree as fun j hj => hask _ j (by simp only [efAsks, hj, Bool.or_true])]; exact hxs
        · exact h.elim
      · rename_i hh
        exact fin s (fun _ _ => rfl) (fun hc => absurd (holdsB_iff.2 hc) hh) h
    | callm i C f ks as =>
      simp only [wpE] at h
      have hask : ∀ (v : SV) (j : Nat), efAsks j (.callm i C f ks as) = true → get s j = get (putS s i v) j := fun v j hj => by
        rw [get_putS, if_neg]
        intro e'; subst e'
        exact absurd hj (by rw [show efAsks j (.callm j C f ks as) = false from hself]; simp)
      have hC : ∀ v, holds s C ↔ holds (putS s i v) C := fun v => holds_agree fun j hj => hask v j (by simp only [efAsks, hj, Bool.true_or])
      have ha : ∀ v, evals s as = evals (putS s i v) as := fun v => evals_agree as fun j hj => hask v j (by simp only [efAsks, asksIn_append, hj, Bool.or_true])
      have hf : ∀ v, fnOf s f = fnOf (putS s i v) f := fun v => fnOf_agree fun j hj => hask v j (by simp only [efAsks, asksIn_append, hj, Bool.true_or, Bool.or_true])
      have ho : ∀ v, oldV s ks as = oldV (putS s i v) ks as := fun v => oldV_agree fun j hj => hask v j (by simp only [efAsks, asksIn_append, hj, Bool.or_true])
      split at h
      · rename_i hh
        split at h
        · rename_i xs n hxs hn
          obtain ⟨R, h1, h2⟩ := h
          refine fin (putS s i (.v R)) (fun j hj => by rw [get_putS]; exact if_neg hj) ⟨fun _ => ⟨xs, n, R, ?_, ?_, h1, by rw [get_putS, if_pos rfl]⟩, fun hc => absurd ((hC _).1 (holdsB_iff.1 hh)) hc⟩ h2
          · rw [← ha]; exact hxs
          · rw [← hf]; exact hn
        · exact h.elim
      · rename_i hh
        split at h
        · rename_i hos
          exact fin s (fun _ _ => rfl) ⟨fun hc => absurd (holdsB_iff.2 hc) hh, fun _ => ⟨[], hos, fun hne => absurd rfl hne⟩⟩ h
        · rename_i os hne hos
          refine fin (putS s i (.v (.tup (.bool false :: os)))) (fun j hj => by rw [get_putS]; exact if_neg hj) ⟨fun hc => absurd (holdsB_iff.2 ((hC _).2 hc)) hh, fun _ => ⟨os, ?_, fun _ => by rw [get_putS, if_pos rfl]⟩⟩ h
          rw [← ho]; exact hos
        · exact h.elim
end
end Vm
