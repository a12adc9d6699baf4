/-
  Statements: what the compiler makes of a function's code is right.
-/
import Derived.Test.YtbmgnmjghhakhaaVx
import Derived.Scope
namespace Vm
open Go
open Go.RowKit (Below)
set_option linter.unusedSimpArgs false
set_option linter.unusedVariables false

/-- a state of which only some places are kept -/
def onlyS : List Nat → St → St
  | [], _ => []
  | i :: l, s => putS (onlyS l s) i (get s i)
theorem get_onlyS : ∀ {keep : List Nat} {s : St} {i : Nat}, i ∈ keep → get (onlyS keep s) i = get s i
  | [], s, i, hi => by simp at hi
  | j :: l, s, i, hi => by
    simp only [onlyS]
    rw [get_putS]
    split
    · rename_i e; rw [e]
    · rename_i e
      exact get_onlyS ((List.mem_cons.1 hi).resolve_left e)
def wpS (P : Program) : Stm → St → (St → Prop) → (Nat → St → Prop) → (St → Prop) → Prop
  | .reg r, s, N, _, _ => wpR P r s N
  | .skip, s, N, _, _ => N s
  | .seq a b, s, N, X, R => wpS P a s (fun s' => wpS P b s' N X R) X R
  | .cond c a b, s, N, X, R => match eval s c with
    | some (.bool true) => wpS P a s N X R
    | some (.bool false) => wpS P b s N X R
    | _ => False
  | .block id a, s, N, X, R => wpS P a s N (fun i s' => if i = id then N s' else X i s') R
  | .loop keep a, s, _, X, R => ∃ (I : St → Prop) (μ : St → Nat), I (onlyS keep s) ∧ ∀ s, I s → wpS P a s (fun s' => I (onlyS keep s') ∧ μ (onlyS keep s') < μ s) X R
  | .exit id, s, _, X, _ => X id s
  | .ret, s, _, _, R => R s

/-- how a frame and a world stand to a state, where S is known -/
def RelS (Kf : Nat → Prop) (fix : List Nat) (T0 : Array Value) (c : Ctx) (B : Nat) (G : Nat → Prop) (w0 : World) (n0 : Nat) (s : St) (a : Act) (w : World) (S : SS) : Prop :=
  (∃ h, RelG c B G s a w h (entry c S) ∧ h.K = Kf) ∧ NilOk c s S ∧ Frm Kf (fun t => t ∈ fix) T0 B w0 a w ∧ a.tmps.size = n0 ∧ a.defers = []
section
variable {c : Ctx} {fc : FC} {B : Nat} {G : Nat → Prop} {s t u : St} {a a' : Act} {w w' w0 : World} {n0 : Nat} {S R : SS} {Kf : Nat → Prop} {fix : List Nat} {T0 : Array Value}
theorem RelS.weak (hr : RelS Kf fix T0 c B G w0 n0 s a w S) (hle : leSS c.P S R = true) : RelS Kf fix T0 c B G w0 n0 s a w R := by
  obtain ⟨⟨h, h1, hK⟩, h2, h3⟩ := hr
  obtain ⟨h4, h5⟩ := RelS_weak h1 h2 hle
  exact ⟨⟨_, h4, hK⟩, h5, h3⟩
theorem leO_some {P : Program} {S : SS} {M : Option SS} (h : leO P (some S) M = true) : ∃ R, M = some R ∧ leSS P S R = true := by
  cases M with
  | none => cases h
  | some R => exact ⟨R, rfl, h⟩
theorem RelS.only (hr : RelS Kf fix T0 c B G w0 n0 s a w S) : RelS Kf fix T0 c B G w0 n0 (onlyS (S.map fun y => c.ix y.1) s) a w S := by
  obtain ⟨⟨h, h1, hK⟩, h2, h3⟩ := hr
  have hag : ∀ x ∈ S, get (onlyS (S.map fun y => c.ix y.1) s) (c.ix x.1) = get s (c.ix x.1) := fun x hx => get_onlyS (List.mem_map.2 ⟨x, hx, rfl⟩)
  exact ⟨⟨h, h1.agree hag, hK⟩, fun p hp => by rw [hag _ (atSS_mem hp)]; exact h2 p hp, h3⟩

theorem least_exists {p : Nat → Prop} : ∀ (n : Nat), p n → ∃ n, p n ∧ ∀ m, p m → n ≤ m := by
  intro n
  induction n using Nat.strongRecOn with
  | _ n ih =>
    intro hn
    by_cases h : ∃ m, m < n ∧ p m
    · obtain ⟨m, h1, h2⟩ := h
      exact ih m h1 h2
    · exact ⟨n, hn, fun m hm => Nat.le_of_not_lt fun hlt => h ⟨m, hlt, hm⟩⟩
open Classical in
/-- the least number of the kind -/
noncomputable def least (p : Nat → Prop) : Nat := if h : ∃ n, p n ∧ ∀ m, p m → n ≤ m then Classical.choose h else 0
theorem least_spec {p : Nat → Prop} (h : ∃ n, p n) : p (least p) := by
  obtain ⟨n, hn⟩ := h
  have h' := least_exists n hn
  unfold least
  rw [dif_pos h']
  exact (Classical.choose_spec h').1
theorem least_le {p : Nat → Prop} {n : Nat} (hn : p n) : least p ≤ n := by
  have h' := least_exists n hn
  unfold least
  rw [dif_pos h']
  exact (Classical.choose_spec h').2 n hn

/-- what must follow at an exit of the code -/
def Post (Kf : Nat → Prop) (fix : List Nat) (T0 : Array Value) (c : Ctx) (B : Nat) (G : Nat → Prop) (w0 : World) (n0 : Nat) (fl : Flow) (N : St → Prop) (X : Nat → St → Prop) (R : St → Prop) (e : Exit) (a : Act) (w : World) : Prop :=
  match e with
  | .normal => ∃ s S, fl.n = some S ∧ N s ∧ RelS Kf fix T0 c B G w0 n0 s a w S
  | .exit id => ∃ s S, (id, S) ∈ fl.x ∧ X id s ∧ RelS Kf fix T0 c B G w0 n0 s a w S
  | .ret => ∃ s S, S ∈ fl.r ∧ R s ∧ RelS Kf fix T0 c B G w0 n0 s a w S
  | _ => False

theorem Post.mono {fl fl' : Flow} {N N' : St → Prop} {X X' : Nat → St → Prop} {Rt : St → Prop} {e : Exit} {a : Act} {w : World} (h : Post Kf fix T0 c B G w0 n0 fl N X Rt e a w)
    (hn : ∀ s S, fl.n = some S → N s → RelS Kf fix T0 c B G w0 n0 s a w S → ∃ s S, fl'.n = some S ∧ N' s ∧ RelS Kf fix T0 c B G w0 n0 s a w S)
    (hx : ∀ id s S, (id, S) ∈ fl.x → X id s → RelS Kf fix T0 c B G w0 n0 s a w S → ∃ s S, (id, S) ∈ fl'.x ∧ X' id s ∧ RelS Kf fix T0 c B G w0 n0 s a w S)
    (hr : ∀ S, S ∈ fl.r → S ∈ fl'.r) : Post Kf fix T0 c B G w0 n0 fl' N' X' Rt e a w := by
  cases e with
  | normal => obtain ⟨s, S, h1, h2, h3⟩ := h; exact hn s S h1 h2 h3
  | exit id => obtain ⟨s, S, h1, h2, h3⟩ := h; exact hx id s S h1 h2 h3
  | ret => obtain ⟨s, S, h1, h2, h3⟩ := h; exact ⟨s, S, hr S h1, h2, h3⟩
  | goto l => exact h.elim
  | panic ch => exact h.elim
  | outgrown => exact h.elim

theorem comp_sound (hm : fc.P.follows .mixedOrders = true) (hinj : ∀ p ∈ fc.keep, ∀ q ∈ fc.keep, fc.ix p = fc.ix q → p = q) (hP : c.P = fc.P) (hix : c.ix = fc.ix) (hfx : fix = fc.fix) (hn : fc.n ≤ n0) :
    ∀ (code : Code) {S : SS} {st : Stm} {fl : Flow} {s : St} {a : Act} {w : World} {N : St → Prop} {X : Nat → St → Prop} {Rt : St → Prop}, comp fc code S = some (st, fl) → RelS Kf fix T0 c B G w0 n0 s a w S → wpS fc.P st s N X Rt →
      code.wp fc.P (Post Kf fix T0 c B G w0 n0 fl N X Rt) a w := by
  intro code
  induction code with
  | skip =>
    intro S st fl s a w N X Rt hc hr hw
    simp only [comp, Option.some.injEq, Prod.mk.injEq] at hc
    obtain ⟨rfl, rfl⟩ := hc
    exact wp_skip ⟨s, S, rfl, hw, hr⟩
  | label l =>
    intro S st fl s a w N X Rt hc hr hw
    simp only [comp, Option.some.injEq, Prod.mk.injEq] at hc
    obtain ⟨rfl, rfl⟩ := hc
    exact wp_label ⟨s, S, rfl, hw, hr⟩
  | region id ops draw =>
    intro S st fl s a w N X Rt hc hr hw
    simp only [comp, Option.map_eq_some_iff, Prod.mk.injEq] at hc
    obtain ⟨⟨r, S'⟩, hreg, rfl, rfl⟩ := hc
    obtain ⟨⟨h, h1, hK⟩, h2, h3, h4, h5⟩ := hr
    refine reg_wp (fun _ => hm) hreg hinj hP hix h1 h2 (by rw [h4]; exact hn) hw fun a' w' s' h' hk hrel hnil hKk hb hs hd => ?_
    rw [hK, ← hfx] at hb
    exact ⟨s', S', rfl, hk, ⟨h', hrel, hKk.trans hK⟩, hnil, h3.trans hb, hs.trans h4, hd.trans h5⟩
  | seq x y ihx ihy =>
    intro S st fl s a w N X Rt hc hr hw
    simp only [comp, Option.bind_eq_some_iff] at hc
    obtain ⟨⟨sx, fx⟩, hx, hc⟩ := hc
    simp only at hc
    split at hc
    · rename_i hnone
      simp only [Option.some.injEq, Prod.mk.injEq] at hc
      obtain ⟨rfl, rfl⟩ := hc
      refine wp_seq (wp_mono (ihx (N := N) (X := X) (Rt := Rt) hx hr hw) fun e a' w' hp => ?_)
      cases e with
      | normal => obtain ⟨s', S', h1, _⟩ := hp; rw [hnone] at h1; cases h1
      | _ => exact hp
    · rename_i R hsome
      simp only [Option.map_eq_some_iff, Prod.mk.injEq] at hc
      obtain ⟨⟨sy, fy⟩, hy, rfl, rfl⟩ := hc
      refine wp_seq (wp_mono (ihx (N := fun s' => wpS fc.P sy s' N X Rt) (X := X) (Rt := Rt) hx hr hw) fun e a' w' hp => ?_)
      cases e with
      | normal =>
        obtain ⟨s', S', h1, h2, h3⟩ := hp
        rw [hsome] at h1; cases h1
        exact wp_mono (ihy hy h3 h2) fun e a' w' hp => hp.mono (fun s S h1 h2 h3 => ⟨s, S, h1, h2, h3⟩) (fun id s S h1 h2 h3 => ⟨s, S, List.mem_append.2 (.inr h1), h2, h3⟩) fun S hS => List.mem_append.2 (.inr hS)
      | exit id => obtain ⟨s', S', h1, h2⟩ := hp; exact ⟨s', S', List.mem_append.2 (.inl h1), h2⟩
      | ret => obtain ⟨s', S', h1, h2⟩ := hp; exact ⟨s', S', List.mem_append.2 (.inl h1), h2⟩
      | _ => exact hp.elim
  | exit id =>
    intro S st fl s a w N X Rt hc hr hw
    simp only [comp, Option.some.injEq, Prod.mk.injEq] at hc
    obtain ⟨rfl, rfl⟩ := hc
    exact wp_exit ⟨s, S, by simp, hw, hr⟩
  | ret =>
    intro S st fl s a w N X Rt hc hr hw
    simp only [comp, Option.some.injEq, Prod.mk.injEq] at hc
    obtain ⟨rfl, rfl⟩ := hc
    exact wp_ret ⟨s, S, by simp, hw, hr⟩
  | scope x ih =>
    intro S st fl s a w N X Rt hc hr hw
    refine wp_scope_straight (wp_mono (ih (by simpa only [comp] using hc) hr hw) fun e a' w' hp => ?_)
    cases e <;> exact hp
  | cond cnd x y ihx ihy =>
    intro S st fl s a w N X Rt hc hr hw
    cases cnd with
    | tmp tc =>
      simp only [comp] at hc
      split at hc
      · rename_i hfz
        simp only [Option.bind_eq_some_iff] at hc
        obtain ⟨⟨sx, fx⟩, hx, ⟨sy, fy⟩, hy, hc⟩ := hc
        simp only at hc
        split at hc
        · rename_i hle
          simp only [Bool.and_eq_true] at hle
          simp only [Option.some.injEq, Prod.mk.injEq] at hc
          obtain ⟨rfl, rfl⟩ := hc
          obtain ⟨⟨h, h1, hKk⟩, hrest⟩ := hr
          obtain ⟨v, hv, hrel⟩ := h1.at_ tc (by rw [entry_at, hfz]; exact holds_ix0 s c) (by rw [entry_at, hfz]; rfl)
          rw [entry_at, hfz] at hrel
          obtain ⟨xv, hxv, hxr⟩ := hrel
          rw [hix] at hxv
          have hav := Act.eval_tmp a tc v hv
          have weak : ∀ {f : Flow} {fl : Flow} {e : Exit} {a' : Act} {w' : World}, leO fc.P f.n fl.n = true → (∀ z ∈ f.x, z ∈ fl.x) → (∀ z ∈ f.r, z ∈ fl.r) → Post Kf fix T0 c B G w0 n0 f N X Rt e a' w' → Post Kf fix T0 c B G w0 n0 fl N X Rt e a' w' := by
            intro f fl e a' w' hl hx hr hp
            refine hp.mono (fun s S h1 h2 h3 => ?_) (fun id s S h1 h2 h3 => ⟨s, S, hx _ h1, h2, h3⟩) hr
            rw [h1] at hl
            obtain ⟨R, hR, hle⟩ := leO_some hl
            exact ⟨s, R, hR, h2, h3.weak (by rw [hP]; exact hle)⟩
          simp only [wpS] at hw
          split at hw
          · rename_i hb
            rw [hxv] at hb; cases hb
            have hvb : v = .bool true := by cases hxr; rfl
            refine wp_cond_true (by rw [hav, hvb]) (wp_mono (ihx hx ⟨⟨h, h1, hKk⟩, hrest⟩ hw) fun e a' w' hp => ?_)
            exact weak hle.1 (fun z hz => List.mem_append.2 (.inl hz)) (fun z hz => List.mem_append.2 (.inl hz)) hp
          · rename_i hb
            rw [hxv] at hb; cases hb
            have hvb : v = .bool false := by cases hxr; rfl
            refine wp_cond_false (by rw [hav, hvb]) (wp_mono (ihy hy ⟨⟨h, h1, hKk⟩, hrest⟩ hw) fun e a' w' hp => ?_)
            exact weak hle.2 (fun z hz => List.mem_append.2 (.inr hz)) (fun z hz => List.mem_append.2 (.inr hz)) hp
          · exact hw.elim
        · cases hc
      · cases hc
    | _ => simp [comp] at hc
  | block id x ih =>
    intro S st fl s a w N X Rt hc hr hw
    simp only [comp, Option.bind_eq_some_iff] at hc
    obtain ⟨⟨sx, fx⟩, hx, hc⟩ := hc
    simp only at hc
    split at hc
    · rename_i hle
      simp only [Bool.and_eq_true, List.all_eq_true, Bool.or_eq_true, bne_iff_ne, ne_eq] at hle
      obtain ⟨hle1, hle2⟩ := hle
      simp only [Option.some.injEq, Prod.mk.injEq] at hc
      obtain ⟨rfl, rfl⟩ := hc
      generalize meetO fc.P fx.n (meetAll fc.P ((fx.x.filter fun y => y.1 == id).map (·.2))) = M at hle1 hle2 ⊢
      refine wp_block (wp_mono (ih (N := N) (X := fun i s' => if i = id then N s' else X i s') (Rt := Rt) hx hr hw) fun e a' w' hp => ?_)
      cases e with
      | normal =>
        obtain ⟨s', S', h1, h2, h3⟩ := hp
        rw [h1] at hle1
        obtain ⟨R, hR, hl⟩ := leO_some hle1
        exact ⟨s', R, hR, h2, h3.weak (by rw [hP]; exact hl)⟩
      | exit id' =>
        obtain ⟨s', S', h1, h2, h3⟩ := hp
        simp only [Exit.inBlock]
        by_cases hid : id' = id
        · subst hid
          simp only [if_true] at h2 ⊢
          obtain ⟨R, hR, hl⟩ := leO_some ((hle2 _ h1).resolve_left (by simp))
          exact ⟨s', R, hR, h2, h3.weak (by rw [hP]; exact hl)⟩
        · simp only [if_neg hid] at h2 ⊢
          exact ⟨s', S', List.mem_filter.2 ⟨h1, by simpa using hid⟩, h2, h3⟩
      | ret => exact hp
      | _ => exact hp.elim
    · cases hc
  | loop x ih =>
    intro S st fl s a w N X Rt hc hr hw
    simp only [comp, Option.bind_eq_some_iff] at hc
    obtain ⟨H, hH, ⟨sx, fx⟩, hx, hc⟩ := hc
    simp only at hc
    split at hc
    · rename_i hle
      simp only [Bool.and_eq_true] at hle
      simp only [Option.some.injEq, Prod.mk.injEq] at hc
      obtain ⟨rfl, rfl⟩ := hc
      obtain ⟨I, μ, hI0, hround⟩ := hw
      have hixs : (H.map fun y => fc.ix y.1) = H.map fun y => c.ix y.1 := by rw [hix]
      rw [hixs] at hI0 hround
      refine wp_loop (fun a w => ∃ s, I s ∧ RelS Kf fix T0 c B G w0 n0 s a w H) (fun a w => least fun n => ∃ s, μ s = n ∧ I s ∧ RelS Kf fix T0 c B G w0 n0 s a w H) ⟨_, hI0, (hr.weak (by rw [hP]; exact hle.1)).only⟩ fun a w hI => ?_
      obtain ⟨s0, hs0, hr0⟩ := hI
      obtain ⟨s1, hμ, hs1, hr1⟩ := least_spec (p := fun n => ∃ s, μ s = n ∧ I s ∧ RelS Kf fix T0 c B G w0 n0 s a w H) ⟨μ s0, s0, rfl, hs0, hr0⟩
      refine wp_mono (ih hx hr1 (hround s1 hs1)) fun e a' w' hp => ?_
      cases e with
      | normal =>
        obtain ⟨s', S', h1, ⟨h2, h4⟩, h3⟩ := hp
        have hl := hle.2
        rw [h1] at hl
        have hr' := (h3.weak (show leSS c.P S' H = true by rw [hP]; exact hl)).only
        refine ⟨⟨_, h2, hr'⟩, ?_⟩
        rw [← hμ]
        exact Nat.lt_of_le_of_lt (least_le (p := fun n => ∃ s, μ s = n ∧ I s ∧ RelS Kf fix T0 c B G w0 n0 s a' w' H) ⟨_, rfl, h2, hr'⟩) h4
      | exit id => exact hp
      | ret => exact hp
      | _ => exact hp.elim
    · cases hc
  | rangeFunc f params asg body ih1 ih2 => intro S st fl s a w N X Rt hc; simp [comp] at hc
  | goto l => intro S st fl s a w N X Rt hc; simp [comp] at hc
  | refuse why => intro S st fl s a w N X Rt hc; simp [comp] at hc
end
end Vm
