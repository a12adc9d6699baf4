/-
  One operation of a region, in whatever place of the order.
-/
import Derived.Test.YtbmgnmjghhakhaaVqn
namespace Vm
open Go
open Go.RowKit (Below)
set_option linter.unusedSimpArgs false
set_option linter.unusedVariables false

section
variable {c : Ctx} {B : Nat} {G : Nat → Prop} {s : St} {a a' : Act} {w w' : World} {h h' : GH} {g : Gam} {C : Conds} {fz ps rb : List Nat} {ops : Array Oper}

theorem argsE_rd (hr : RelG c B G s a w h g) (hC : holds s (ixC c C)) : ∀ {l : List Operand} {ts : List TypeId} {es : List E × List Nat}, argsE c.P g C l ts = some es → ∀ {xs : List V}, evals s es.1 = some xs →
    xs.length = l.length ∧ ∀ (i : Nat) (x : Operand), l[i]? = some x → ∃ z, xs[i]? = some z ∧ Rd w (h.ext es.2) z (a.eval x)
  | [], ts, es, he, xs, hx => by
    simp only [argsE, Option.some.injEq] at he
    subst he
    simp only [evals, Option.some.injEq] at hx
    subst hx
    exact ⟨rfl, fun i x hi => by simp at hi⟩
  | x :: l, ts, es, he, xs, hx => by
    simp only [argsE, Option.bind_eq_some_iff, Option.map_eq_some_iff] at he
    obtain ⟨a0, ha, b, hb, rfl⟩ := he
    simp only [evals, Option.bind_eq_some_iff, Option.map_eq_some_iff] at hx
    obtain ⟨z, hz1, xs', hx2, rfl⟩ := hx
    obtain ⟨h1, h2⟩ := argsE_rd hr hC hb hx2
    obtain ⟨y, hy, hyr⟩ := opE_V hr hC ha
    obtain ⟨z', hz', hzr⟩ := flE_rd (b := a0) hy hyr ⟨z, hz1⟩
    rw [hz1] at hz'; cases hz'
    refine ⟨by simp [h1], fun i y hi => ?_⟩
    cases i with
    | zero => simp at hi; subst hi; exact ⟨z, by simp, hzr.mono fun b hb => GH.ext_left hb⟩
    | succ i =>
      obtain ⟨z', e1, e2⟩ := h2 i y (by simpa using hi)
      exact ⟨z', by simpa using e1, e2.mono fun b hb => GH.ext_right hb⟩

theorem pkPick_run (hr : RelG c B G s a w h g) (hC : holds s (ixC c C)) {o : Oper} {x y z : Operand} (ho : o.op = .pick x y z) {k : TK} {es : List E} (hp : pkPick c g C x y z = some (k, es)) (hes : ∀ e ∈ es, ∃ z, eval s e = some z) (d : Nat) : PRun c B G s a w h o d k := by
  unfold pkPick at hp
  split at hp
  · rename_i t u hk
    split at hp
    · cases hp
    · rename_i hu
      have hu : u = c.ix t := by simpa using hu
      subst hu
      simp only [Option.bind_eq_some_iff, Option.map_eq_some_iff, Prod.mk.injEq] at hp
      obtain ⟨ey, hey, ez, hez, rfl, rfl⟩ := hp
      obtain ⟨v, hv, ⟨xb, hxb, hxr⟩, _⟩ := hr.look hC (show look g C t = _ from hk) rfl
      obtain ⟨q, hq⟩ := hes _ (List.Mem.head _)
      have hq0 := hq
      simp only [eval] at hq hxb
      rw [hxb, Option.bind_some] at hq
      have hst : get s (c.ix t) = .v xb := by
        cases hg : get s (c.ix t) <;> rw [hg] at hxb <;> simp at hxb
        rw [hxb]
      have hex : ∀ b, xb = .bool b → (execOp a.eval o).run c.P w = .ok (.value (if b = true then a.eval y else a.eval z)) w := by
        intro b hb
        subst hb
        have hvb : v = .bool b := by cases hxr; rfl
        subst hvb
        unfold execOp
        simp only [ho, Act.eval_tmp a t _ hv]
        cases b <;> simp [asBool]
      unfold iteV at hq
      split at hq
      · have hC2 : holds s (ixC c (C ++ [(t, true)])) := by
          have : ixC c (C ++ [(t, true)]) = ixC c C ++ [(c.ix t, true)] := by simp [ixC]
          rw [this, holds_append]
          refine ⟨hC, fun x hx => ?_⟩
          simp at hx; subst hx; exact hst
        obtain ⟨r, hr1, hr2⟩ := opE_V hr hC2 hey
        rw [hr1] at hq; cases hq
        exact ⟨_, w, hex true rfl, PRes.here hr.ok ⟨_, hq0, hr2.mono fun b hb => GH.ext_left hb⟩⟩
      · have hC2 : holds s (ixC c (C ++ [(t, false)])) := by
          have : ixC c (C ++ [(t, false)]) = ixC c C ++ [(c.ix t, false)] := by simp [ixC]
          rw [this, holds_append]
          refine ⟨hC, fun x hx => ?_⟩
          simp at hx; subst hx; exact hst
        obtain ⟨r, hr1, hr2⟩ := opE_V hr hC2 hez
        rw [hr1] at hq; cases hq
        exact ⟨_, w, hex false rfl, PRes.here hr.ok ⟨_, hq0, hr2.mono fun b hb => GH.ext_right hb⟩⟩
      · cases hq
  · cases hp

theorem pkOf_run (hr : RelG c B G s a w h g) (hC : holds s (ixC c C)) {o : Oper} {k : TK} {es : List E} (hp : pkOf c g C o = some (k, es)) (hes : ∀ e ∈ es, ∃ z, eval s e = some z) (d : Nat) (hd : o.dst = some d) : PRun c B G s a w h o d k := by
  unfold pkOf at hp
  split at hp
  · rename_i x y z ho
    exact pkPick_run hr hC ho hp hes d
  · split at hp
    · cases hp
    · exact pk_run hr hC hp hes d hd
  · split at hp
    · cases hp
    · exact pk_run hr hC hp hes d hd
  · exact pk_run hr hC hp hes d hd

/-! ### Guards -/
theorem conds_wanted (hr : RelG c B G s a w h g) {o : Oper} (hc : condsOf c ops g o = some C) : (holds s (ixC c C) → Region.wanted o (yielded ops a.tmps) = true) ∧ (¬ holds s (ixC c C) → Region.wanted o (yielded ops a.tmps) = false) := by
  unfold condsOf at hc
  unfold Region.wanted
  split at hc
  · rename_i hg
    simp only [Option.some.injEq] at hc
    subst hc
    simp only [hg]
    exact ⟨fun _ => trivial, fun hn => absurd (holds_ix0 s c) hn⟩
  · rename_i j want hg
    simp only [Option.bind_eq_some_iff] at hc
    obtain ⟨t, ht, hc⟩ := hc
    simp only [hg]
    have hy : yielded ops a.tmps j = match a.tmps[t]? with | some (.bool b) => some b | _ => none := by
      unfold yielded
      rw [show (ops[j]?).bind (·.dst) = some t from by rw [Option.bind_eq_some_iff]; exact ht, Option.bind_some]
      generalize a.tmps[t]? = q
      cases q with
      | none => rfl
      | some v => cases v <;> rfl
    split at hc
    · rename_i Ct u hat
      split at hc
      · rename_i hu
        subst hu
        simp only [Option.some.injEq] at hc
        subst hc
        have e1 : ixC c (Ct ++ [(t, want)]) = ixC c Ct ++ [(c.ix t, want)] := by simp [ixC]
        have e2 : holds s (ixC c (Ct ++ [(t, want)])) ↔ holds s (ixC c Ct) ∧ get s (c.ix t) = .v (.bool want) := by
          rw [e1, holds_append]
          simp [holds]
        by_cases hCt : holds s (ixC c Ct)
        · obtain ⟨v, hv, hrel⟩ := hr.at_ t (by rw [hat]; exact hCt) (by rw [hat]; rfl)
          rw [hat] at hrel
          obtain ⟨x, hx, hxr⟩ := hrel
          have hst : get s (c.ix t) = .v x := by
            simp only [eval] at hx
            cases hg : get s (c.ix t) <;> rw [hg] at hx <;> simp at hx
            rw [hx]
          rw [hy, hv]
          constructor
          · intro hh
            have := (e2.1 hh).2
            rw [hst] at this
            simp only [SV.v.injEq] at this
            subst this
            have hvb : v = .bool want := by cases hxr; rfl
            subst hvb
            simp
          · intro hh
            have hne : x ≠ .bool want := fun e => hh (e2.2 ⟨hCt, by rw [hst, e]⟩)
            cases hxr <;> first
              | rfl
              | (rename_i b; simp only [beq_eq_false_iff_ne, ne_eq, Option.some.injEq]; exact fun e => hne (by rw [e]))
        · have hs := hr.skip t (by rw [hat]; exact hCt)
          have hnone : (match a.tmps[t]? with | some (.bool b) => some b | _ => none) = (none : Option Bool) := by
            cases hh : a.tmps[t]? with
            | none => rfl
            | some v =>
              simp only [Array.getD_eq_getD_getElem?, hh, Option.getD_some] at hs
              subst hs
              rfl
          rw [hy, hnone]
          exact ⟨fun hh => absurd (e2.1 hh).1 hCt, fun _ => rfl⟩
      · cases hc
    · cases hc

/-- the one entry of an operation that turns its own temporary -/
theorem post_one {d : Nat} {k : TK} {v : Value} {efs : List EF} {chks : List (Conds × E)} (hd : d < a.tmps.size) (hs : Step B [d] [d] [] w w' h h') (hok : Ok B G w' h') (hC : holds s (ixC c C)) (hk : RelK c.P B s w' h' (fun p => (a.put (some d) v).tmps[p]?) d v k) :
    OPost c B G s a (a.put (some d) v) w w' h h' { d := [(d, C, k)], ps := [d], rb := [d], fz := [], efs, chks } :=
  ⟨hs, hok, put_size _ _ _, put_defers _ _ _, fun t ht => put_tm v ht, fun t ht => by
    have : t = d := by simpa [domOf] using ht
    subst this
    simp only [Gam.at, if_true]
    exact ⟨fun _ _ => ⟨v, put_at hd v, hk⟩, fun hn => absurd hC hn⟩⟩
/-- where it does not run -/
theorem post_skip {d : Nat} {k : TK} {efs : List EF} {chks : List (Conds × E)} (hd : d < a.tmps.size) (hok : Ok B G w h) (hC : ¬ holds s (ixC c C)) :
    OPost c B G s a (a.put (some d) undef) w w h h { d := [(d, C, k)], ps := [d], rb := [d], fz := [], efs, chks } :=
  ⟨Step.refl _ _ _ _, hok, put_size _ _ _, put_defers _ _ _, fun t ht => put_tm _ ht, fun t ht => by
    have : t = d := by simpa [domOf] using ht
    subst this
    simp only [Gam.at, if_true]
    refine ⟨fun hh => absurd hh hC, fun _ => ?_⟩
    simp only [Array.getD_eq_getD_getElem?, put_at hd, Option.getD_some]⟩
/-- a kind that does not speak of the slot itself -/
theorem RelK.other {d t : Nat} {v u : Value} {k : TK} (hk : RelK c.P B s w h (fun p => a.tmps[p]?) t v k) (ht : touches d k = false) : RelK c.P B s w h (fun p => (a.put (some d) u).tmps[p]?) t v k := by
  cases k with
  | ref p =>
    have : p ≠ d := fun e => by subst e; simp [touches] at ht
    show (a.put (some d) u).tmps[p]? = some v
    rw [put_ne this]; exact hk
  | _ => exact hk

theorem only_at : ∀ {R : List Nat} {g : Gam} {t : Nat}, (only g R).at t = if t ∈ R then g.at t else ([], .no)
  | [], g, t => rfl
  | u :: R, g, t => by
    simp only [only, List.map_cons, Gam.at]
    by_cases hu : u = t
    · subst hu; simp
    · rw [if_neg hu]
      have := only_at (R := R) (g := g) (t := t)
      simp only [only] at this
      rw [this]
      simp [Ne.symm hu]

/-- what a slot holds that is handed on -/
theorem slot_rel (hr : RelG c B G s a w h g) {ks : List OT} {aps : List AP} {as : List (E × Option Nat)} (hp : passAll c g C ks aps = some as) (hX : ∀ (i : Nat) (e : E) (p : Nat), as[i]? = some (e, some p) → ∃ X, eval s e = some X) {vs : Array Value}
    (hvs : ∀ (i : Nat) (e : E) (p : Nat), as[i]? = some (e, some p) → a.tmps[p]? = some (vs.getD i undef)) :
    (∀ (i : Nat) (e : E) (p : Nat), as[i]? = some (e, some p) → a.tmps[p]? = some (vs.getD i undef) ∧ ((∃ l b, ks[i]? = some (.mem l) ∧ h.bl p 0 = some b ∧ vs.getD i undef = .pointer (some ⟨b, 0, none⟩)) ∨ ∃ ty, ks[i]? = some (.own ty))) := by
  obtain ⟨h1, h2, h3⟩ := passAll_get hp
  intro i e p hi
  have hlt : i < ks.length := by rw [← h2]; exact (List.getElem?_eq_some_iff.1 hi).1
  have hk : ks[i]? = some ks[i] := List.getElem?_eq_getElem hlt
  have ha : aps[i]? = some aps[i] := List.getElem?_eq_getElem (by omega)
  obtain ⟨X, hx⟩ := hX i e p hi
  obtain ⟨v, q1, _, q2⟩ := pass_out (ks := ks) (as := as) hr (h3 i _ _ _ hk ha hi) hx hk hi
  have hv := hvs i e p hi
  refine ⟨hv, ?_⟩
  rw [q1] at hv
  simp only [Option.some.injEq] at hv
  rw [← hv]
  rcases q2 with ⟨l, b, e1, e2, e3⟩ | ⟨ty, e1⟩
  · exact .inl ⟨l, b, by rw [hk, e1], e2, e3⟩
  · exact .inr ⟨ty, by rw [hk, e1]⟩
theorem pass_z {ks : List OT} {aps : List AP} {as : List (E × Option Nat)} (hp : passAll c g C ks aps = some as) : ∀ (j : Nat) (k : OT) (y : E × Option Nat), ks[j]? = some k → as[j]? = some y → (y.2 = none ↔ k = OT.fz) := by
  obtain ⟨h1, h2, h3⟩ := passAll_get hp
  intro j k y hk hy
  have hlt : j < ks.length := (List.getElem?_eq_some_iff.1 hk).1
  have hpo := h3 j k _ y hk (List.getElem?_eq_getElem (by omega : j < aps.length)) hy
  unfold passOne at hpo
  split at hpo
  · split at hpo
    · simp only [Option.bind_eq_some_iff] at hpo
      obtain ⟨_, _, hpo⟩ := hpo
      split at hpo
      · simp only [Option.some.injEq] at hpo; subst hpo; simp
      · cases hpo
    · cases hpo
  · simp only [Option.bind_eq_some_iff] at hpo
    obtain ⟨_, _, _, _, hpo⟩ := hpo
    split at hpo
    · simp only [Option.some.injEq] at hpo; subst hpo; simp
    · cases hpo
  · simp only [Option.bind_eq_some_iff] at hpo
    obtain ⟨_, _, _, _, hpo⟩ := hpo
    split at hpo
    · simp only [Option.some.injEq] at hpo; subst hpo; simp
    · cases hpo
  · cases hpo
theorem apsOf_get : ∀ {l : List Operand} {ts : List TypeId}, (apsOf l ts).length = l.length ∧ ∀ (i : Nat) (x : AP), (apsOf l ts)[i]? = some x → ∃ y t, l[i]? = some y ∧ x = .op y t
  | [], ts => by simp [apsOf]
  | x :: l, [] => by
    obtain ⟨h1, h2⟩ := apsOf_get (l := l) (ts := [])
    refine ⟨by simp [apsOf, h1], fun i y hi => ?_⟩
    cases i with
    | zero => simp [apsOf] at hi; exact ⟨x, 0, rfl, hi.symm⟩
    | succ i => simpa using h2 i y (by simpa [apsOf] using hi)
  | x :: l, t :: ts => by
    obtain ⟨h1, h2⟩ := apsOf_get (l := l) (ts := ts)
    refine ⟨by simp [apsOf, h1], fun i y hi => ?_⟩
    cases i with
    | zero => simp [apsOf] at hi; exact ⟨x, t, rfl, hi.symm⟩
    | succ i => simpa using h2 i y (by simpa [apsOf] using hi)

/-- what is called, and with what -/
theorem callM_enter (hr : RelG c B G s a w h g) (hC : holds s (ixC c C)) {o : Oper} {fn : FN} {ks : List OT} {aps : List AP} (hcall : callMOf c g C o = some (fn, ks, aps)) {f : FuncId} (hf : fnOf s fn = some f) (hcb : callable c.P f = true) :
    ∃ vs : Array Value, (execOp a.eval o).run c.P w = .ok (.enter f vs) w ∧ vs.size = aps.length ∧ ∀ (i : Nat) (x : AP), aps[i]? = some x → apV a h x (vs.getD i undef) := by
  have hent : ∀ {args : Array Operand} {tys : Array TypeId} {cv : Operand} {caps : Array Value}, o.op = .call { callee := .value cv, args := args, argTypes := tys } → a.eval cv = .func (.func f) #[] caps →
      (execOp a.eval o).run c.P w = .ok (.enter f (args.map a.eval ++ caps)) w := by
    intro args tys cv caps hop hev
    unfold callable at hcb
    split at hcb
    · rename_i fn hfn
      simp only [Bool.and_eq_true, Bool.not_eq_true', beq_eq_false_iff_ne, ne_eq] at hcb
      obtain ⟨h1, h2⟩ := hcb
      obtain ⟨code, h3⟩ := Option.isSome_iff_exists.1 h2
      simp [execOp, hop, resolve, hev, Deferred.ofValue, invoke, callFunc, hfn, h1, h3]
    · cases hcb
  have plain : ∀ {args : Array Operand} {tys : Array TypeId} {i : Nat} {x : AP}, (apsOf args.toList tys.toList)[i]? = some x → apV a h x ((args.map a.eval).getD i undef) := by
    intro args tys i x hi
    obtain ⟨y, t, hy, rfl⟩ := (apsOf_get (l := args.toList) (ts := tys.toList)).2 i x hi
    rw [Array.getElem?_toList] at hy
    have hlt : i < args.size := (Array.getElem?_eq_some_iff.1 hy).1
    show (args.map a.eval).getD i undef = a.eval y
    simp [Array.getD_eq_getD_getElem?, hy]
  unfold callMOf at hcall
  split at hcall
  · rename_i f' args tys hop
    simp only [Option.map_eq_some_iff, Prod.mk.injEq] at hcall
    obtain ⟨ks', _, rfl, rfl, rfl⟩ := hcall
    simp only [fnOf, Option.some.injEq] at hf
    subst hf
    refine ⟨args.map a.eval ++ #[], hent hop rfl, by simp [(apsOf_get (l := args.toList) (ts := tys.toList)).1], fun i x hi => ?_⟩
    rw [Array.append_empty]
    exact plain hi
  · rename_i t args tys hop
    split at hcall
    · rename_i f' caps hk
      simp only [Option.map_eq_some_iff, Prod.mk.injEq] at hcall
      obtain ⟨ks', _, rfl, rfl, rfl⟩ := hcall
      simp only [fnOf, Option.some.injEq] at hf
      subst hf
      obtain ⟨v, hv, ⟨vs, rfl, h2, h3⟩, _⟩ := hr.look hC (show look g C t = _ from hk) rfl
      have hal := (apsOf_get (l := args.toList) (ts := tys.toList)).1
      simp only [Array.length_toList] at hal
      refine ⟨args.map a.eval ++ vs, hent hop (Act.eval_tmp a t _ hv), by simp [hal, h2], fun i x hi => ?_⟩
      by_cases hlt : i < args.size
      · rw [List.getElem?_append_left (by omega)] at hi
        have := plain hi
        rw [Array.getD_eq_getD_getElem?] at this ⊢
        rw [Array.getElem?_append_left (by simpa using hlt)]
        exact this
      · rw [List.getElem?_append_right (by omega), List.getElem?_map, Option.map_eq_some_iff] at hi
        obtain ⟨p, hp, rfl⟩ := hi
        rw [hal] at hp
        obtain ⟨b, q1, q2⟩ := h3 _ p hp
        refine ⟨b, q1, ?_⟩
        rw [Array.getD_eq_getD_getElem?, Array.getElem?_append_right (by simp; omega)]
        simp [q2]
    · rename_i e sh hk
      simp only [Option.some.injEq, Prod.mk.injEq] at hcall
      obtain ⟨rfl, rfl, rfl⟩ := hcall
      obtain ⟨v, hv, ⟨x, hx, hxr⟩, _⟩ := hr.look hC (show look g C t = _ from hk) rfl
      simp only [fnOf, hx] at hf
      split at hf
      · rename_i f' hx'
        simp only [Option.some.injEq] at hx' hf
        subst hx' hf
        have hvf : v = .func (.func f') #[] #[] := by cases hxr; rfl
        subst hvf
        refine ⟨args.map a.eval ++ #[], hent hop (Act.eval_tmp a t _ hv), by simp [(apsOf_get (l := args.toList) (ts := tys.toList)).1], fun i x hi => ?_⟩
        rw [Array.append_empty]
        exact plain hi
      · cases hf
    · cases hcall
  · cases hcall
theorem oldV_spec : ∀ {ks : List OT} {as : List (E × Option Nat)} {os : List V}, as.length = ks.length → oldV s ks (as.map (·.1)) = some os → ∃ ys, ys.length = ks.length ∧ outsV ks ys = os ∧ ∀ (i : Nat) (k : OT) (y : E × Option Nat) (x : V), ks[i]? = some k → k ≠ .fz → as[i]? = some y → ys[i]? = some x → eval s y.1 = some x
  | [], [], os, _, ho => by
    simp only [List.map_nil, oldV, Option.some.injEq] at ho
    subst ho
    exact ⟨[], rfl, rfl, fun i k y x hk => by simp at hk⟩
  | [], _ :: _, os, hl, _ => by simp at hl
  | _ :: _, [], os, hl, _ => by simp at hl
  | k :: ks, (e, o) :: as, os, hl, ho => by
    by_cases hk : k = .fz
    · subst hk
      simp only [List.map_cons, oldV] at ho
      obtain ⟨ys, h1, h2, h3⟩ := oldV_spec (ks := ks) (as := as) (by simpa using hl) ho
      refine ⟨.bool false :: ys, by simp [h1], by simpa only [outsV] using h2, fun i k y x q1 q2 q3 q4 => ?_⟩
      cases i with
      | zero => simp at q1; exact absurd q1.symm q2
      | succ i => exact h3 i k y x (by simpa using q1) q2 (by simpa using q3) (by simpa using q4)
    · have e1 : oldV s (k :: ks) (e :: as.map (·.1)) = (eval s e).bind fun x => (oldV s ks (as.map (·.1))).map (x :: ·) := by cases k <;> first | exact absurd rfl hk | simp only [oldV]
      rw [List.map_cons, e1] at ho
      simp only [Option.bind_eq_some_iff, Option.map_eq_some_iff] at ho
      obtain ⟨x, hx, os', hos, rfl⟩ := ho
      obtain ⟨ys, h1, h2, h3⟩ := oldV_spec (ks := ks) (as := as) (by simpa using hl) hos
      have e2 : outsV (k :: ks) (x :: ys) = x :: outsV ks ys := by cases k <;> first | exact absurd rfl hk | simp only [outsV]
      refine ⟨x :: ys, by simp [h1], by rw [e2, h2], fun i k y z q1 q2 q3 q4 => ?_⟩
      cases i with
      | zero => simp at q3 q4; subst q3 q4; exact hx
      | succ i => exact h3 i k y z (by simpa using q1) q2 (by simpa using q3) (by simpa using q4)

def okOS (P : Program) (s : St) (os : OS) : Prop := (∀ ef ∈ os.efs, EFok P s ef) ∧ ∀ x ∈ os.chks, holds s x.1 → ∃ z, eval s x.2 = some z

theorem stepOp_run {lets R : List Nat} {all : Gam} {o : Oper} {os : OS} {i : Nat} (hi : ops[i]? = some o) (hR : R = looks ops all o) (hr : RelG c B G s a w h (only all R)) (hst : stepOp c lets ops all o = some os) (hok : okOS c.P s os) (hn : c.n ≤ a.tmps.size)
    {Q : Exit → Act → World → Prop} {K : Act → World → Prop} (hK : ∀ a' w' h', OPost c B G s a a' w w' h h' os → (∃ u, a' = a.put o.dst u) → K a' w') : wpOp c.P ops Q i K a w := by
  subst hR
  unfold wpOp
  simp only [hi]
  unfold stepOp at hst
  simp only at hst
  split at hst
  · cases hst
  · rename_i hdn
    have hdst : ∀ d, o.dst = some d → d < a.tmps.size := by
      intro d hd
      rcases Nat.lt_or_ge d c.n with hlt | hge
      · exact Nat.lt_of_lt_of_le hlt hn
      · simp [dstBad, hd, Nat.not_lt.2 hge] at hdn
    simp only [Option.bind_eq_some_iff] at hst
    obtain ⟨C, hC, hst⟩ := hst
    obtain ⟨hw1, hw2⟩ := conds_wanted (ops := ops) hr hC
    split at hst
    · -- a call that writes what it is handed
      rename_i fn ks aps d hcall hd
      unfold stepCallM at hst
      split at hst
      · cases hst
      · simp only [Option.bind_eq_some_iff] at hst
        obtain ⟨as, has, hst⟩ := hst
        split at hst
        · cases hst
        · rename_i hnd
          simp only [Bool.or_eq_true, Bool.not_eq_true', not_or, Bool.not_eq_false, List.contains_eq_mem, decide_eq_true_eq] at hnd
          obtain ⟨hn, hdp⟩ := hnd
          have hn := nodupB_iff.1 hn
          simp only [Option.some.injEq] at hst
          subst hst
          have hef := hok.1 _ (List.Mem.head _)
          obtain ⟨hl1, hl2, hget⟩ := passAll_get has
          have hz := pass_z has
          rw [hd]
          by_cases hh : holds s (ixC c C)
          · rw [if_pos (hw1 hh)]
            left
            obtain ⟨xs, f, R, hxs, hf, ⟨hcb, hvc⟩, hR⟩ := hef.1 hh
            obtain ⟨vs, hent, hvl, hvs⟩ := callM_enter hr hh hcall hf hcb
            have hrel := args_rel hr hh has hxs hvl hvs
            obtain ⟨_, hxat⟩ := evals_map hxs
            have hX : ∀ (i : Nat) (e : E) (p : Nat), as[i]? = some (e, some p) → ∃ X, eval s e = some X := fun i e p hi => by
              obtain ⟨X, _, hX⟩ := hxat i e (by rw [List.getElem?_map, hi]; rfl)
              exact ⟨X, hX⟩
            have hslot := slot_rel hr has hX (vs := vs) fun i e p hi => by
              have hlt : i < ks.length := by rw [← hl2]; exact (List.getElem?_eq_some_iff.1 hi).1
              have hk : ks[i]? = some ks[i] := List.getElem?_eq_getElem hlt
              have ha : aps[i]? = some aps[i] := List.getElem?_eq_getElem (by omega)
              obtain ⟨X, hx⟩ := hX i e p hi
              exact (pass_rel (ks := ks) (as := as) hr hh (hget i _ _ _ hk ha hi) hx (hvs i _ ha) hk hi).2 p rfl
            unfold Oper.wp
            rw [hent, Oper.upon_enter]
            refine Calls.mono (hvc B w (callGH _ h w ks as) vs (callGH_ok hr.ok hn) hrel) fun e w' he => ?_
            obtain ⟨v, r, ys, hx, rfl, hbel, hsame, hokx, hK', hrd, hB, hpack⟩ := he
            simp only
            rw [hd]
            refine hK _ _ _ (callM_post hr has hn (hdst d hd) hdp hslot hz hokx hK' hbel hsame hB (r0 := r) (fun hne => ?_) (fun _ => ?_) fun hh' => absurd hh hh') ⟨_, by rw [hd]⟩
            · rw [hR, hpack]
              cases hos : outsV ks ys with
              | nil => exact absurd hos hne
              | cons x l => rfl
            · have hFx : ∀ b, hx.F b → (backGH h hx as).F b := fun b hb => .inr hb
              cases hos : outsV ks ys with
              | nil =>
                have hps : (as.filterMap (·.2)).isEmpty = true := by
                  cases hpe : as.filterMap (·.2) with
                  | nil => rfl
                  | cons p l =>
                    exfalso
                    have hpm : p ∈ domOf (outsM (c.ix d) 1 ks as) := by rw [outsM_dom hl2, hpe]; simp
                    obtain ⟨_, _, _, _, _, _, _, _, _, q5⟩ := outsM_at (i0 := c.ix d) (q := 1) (ys := ys) hl2 hB.1 hz p hpm
                    rw [hos] at q5; simp at q5
                rw [if_pos hps]
                refine ⟨r, ?_, hrd.mono fun b hb => GH.ext_F (hFx b hb)⟩
                simp only [eval, hR, hpack, hos, packV]
              | cons x l =>
                have hps : ¬ (as.filterMap (·.2)).isEmpty = true := by
                  intro he
                  have hnil := List.isEmpty_iff.1 he
                  have : ∀ {ks : List OT} {as : List (E × Option Nat)} {ys : List V}, as.length = ks.length → (∀ (j : Nat) (k : OT) (y : E × Option Nat), ks[j]? = some k → as[j]? = some y → (y.2 = none ↔ k = OT.fz)) → as.filterMap (·.2) = [] → outsV ks ys = [] := by
                    intro ks
                    induction ks with
                    | nil => intro as ys _ _ _; simp [outsV]
                    | cons k ks ih =>
                      intro as ys h1 h2 h3
                      cases as with
                      | nil => simp at h1
                      | cons y as =>
                        have hy : y.2 = none := by
                          cases hy : y.2 with
                          | none => rfl
                          | some p => simp [List.filterMap_cons, hy] at h3
                        have hk := (h2 0 k y rfl rfl).1 hy
                        subst hk
                        cases ys with
                        | nil => simp [outsV]
                        | cons z ys =>
                          simp only [outsV]
                          exact ih (by simpa using h1) (fun j k y q1 q2 => h2 (j + 1) k y (by simpa using q1) (by simpa using q2)) (by simpa [List.filterMap_cons, hy] using h3)
                  have := this (ys := ys) hl2 hz hnil
                  rw [hos] at this; cases this
                rw [if_neg hps]
                refine ⟨r, ?_, hrd.mono fun b hb => GH.ext_F (hFx b hb)⟩
                simp only [eval, hR, hpack, hos, packV, Option.bind_some, extV, List.getElem?_cons_zero]
          · rw [if_neg (by rw [hw2 hh]; simp)]
            obtain ⟨os, hos, hgo⟩ := hef.2 hh
            obtain ⟨ys, hy1, hy2, hy3⟩ := oldV_spec hl2 hos
            let vs : Array Value := (as.map fun y => match y.2 with | some p => a.tmps.getD p undef | none => undef).toArray
            have hX : ∀ (i : Nat) (e : E) (p : Nat), as[i]? = some (e, some p) → ∃ X, ys[i]? = some X ∧ eval s e = some X := fun i e p hi => by
              have hlt : i < ks.length := by rw [← hl2]; exact (List.getElem?_eq_some_iff.1 hi).1
              have hk : ks[i]? = some ks[i] := List.getElem?_eq_getElem hlt
              have hyi : ys[i]? = some ys[i] := List.getElem?_eq_getElem (by omega)
              have hkz : ks[i] ≠ .fz := fun e' => by have := (hz i _ _ hk hi).2 e'; cases this
              exact ⟨_, hyi, hy3 i _ _ _ hk hkz hi hyi⟩
            have hval : ∀ (i : Nat) (e : E) (p : Nat), as[i]? = some (e, some p) → a.tmps[p]? = some (vs.getD i undef) := fun i e p hi => by
              have hlt : i < ks.length := by rw [← hl2]; exact (List.getElem?_eq_some_iff.1 hi).1
              have hk : ks[i]? = some ks[i] := List.getElem?_eq_getElem hlt
              have ha : aps[i]? = some aps[i] := List.getElem?_eq_getElem (by omega)
              obtain ⟨X, _, hx⟩ := hX i e p hi
              obtain ⟨v, q1, _⟩ := pass_out (ks := ks) (as := as) hr (hget i _ _ _ hk ha hi) hx hk hi
              have : vs.getD i undef = v := by simp [vs, Array.getD_eq_getD_getElem?, hi, q1]
              rw [this]; exact q1
            have hslot := slot_rel hr has (fun i e p hi => by obtain ⟨X, _, hX⟩ := hX i e p hi; exact ⟨X, hX⟩) hval
            refine hK _ _ _ (callM_post hr has hn (hdst d hd) hdp hslot hz (callGH_ok hr.ok hn) rfl (.refl _ _) (.refl _ _) (ys := ys) ⟨hy1, fun i k y hk hkz hy => ?_⟩ (r0 := .bool false) (fun hne => by rw [hy2]; exact hgo (by rw [← hy2]; exact hne)) (fun hh' => absurd hh' hh) fun _ => rfl) ⟨_, by rw [hd]⟩
            have hlt : i < ks.length := (List.getElem?_eq_some_iff.1 hk).1
            have ha : aps[i]? = some aps[i] := List.getElem?_eq_getElem (by omega)
            have hs : as[i]? = some as[i] := List.getElem?_eq_getElem (by omega)
            generalize as[i] = y0 at hs
            obtain ⟨e, o⟩ := y0
            cases o with
            | none => exact absurd ((hz i k _ hk hs).1 rfl) hkz
            | some p =>
              obtain ⟨X, hX1, hX2⟩ := hX i e p hs
              rw [hy] at hX1; cases hX1
              obtain ⟨v, q1, q2, _⟩ := pass_out (ks := ks) (as := as) hr (hget i _ _ _ hk ha hs) hX2 hk hs
              have := hval i e p hs
              rw [q1] at this
              simp only [Option.some.injEq] at this
              rw [← this]
              exact q2
    · cases hst
    split at hst
    · -- a call
      rename_i f args ts d hcall hd
      unfold stepCall at hst
      split at hst
      · cases hst
      · simp only [Option.map_eq_some_iff] at hst
        obtain ⟨as, has, rfl⟩ := hst
        by_cases hh : holds s (ixC c C)
        · rw [if_pos (hw1 hh)]
          left
          obtain ⟨xs, r, hxs, hvc, hfl, hget⟩ := hok.1 _ (List.Mem.head _) hh
          obtain ⟨hl, hx⟩ := argsE_rd hr hh has hxs
          unfold callOf at hcall
          split at hcall
          · rename_i f' args' tys' hop
            simp only [Option.some.injEq, Prod.mk.injEq] at hcall
            obtain ⟨rfl, rfl, rfl⟩ := hcall
            obtain ⟨hcb, hvc⟩ := hvc
            have henter : (execOp a.eval o).run c.P w = .ok (.enter f' (args'.map a.eval)) w := by
              unfold callable at hcb
              split at hcb
              · rename_i fn hfn
                simp only [Bool.and_eq_true, Bool.not_eq_true', beq_eq_false_iff_ne, ne_eq] at hcb
                obtain ⟨h1, h2⟩ := hcb
                obtain ⟨code, h3⟩ := Option.isSome_iff_exists.1 h2
                simp [execOp, hop, resolve, Act.eval, Deferred.ofValue, invoke, callFunc, hfn, h1, h3]
              · cases hcb
            unfold Oper.wp
            rw [henter, Oper.upon_enter]
            refine Calls.mono (hvc w (h.ext as.2) (args'.map a.eval) (ext_lt hr.ok _) (by simpa using hl.symm) fun j x hj => ?_) fun e w' he => ?_
            · have hlt : j < args'.size := by have := (List.getElem?_eq_some_iff.1 hj).1; rw [hl] at this; simpa using this
              obtain ⟨z, hz, hzr⟩ := hx j args'[j] (by simp [hlt])
              rw [hj] at hz; cases hz
              have : (args'.map a.eval).getD j undef = a.eval args'[j] := by simp [Array.getD_eq_getD_getElem?, hlt]
              rw [this]; exact hzr
            · obtain ⟨v, rfl, hbel, hrd⟩ := he
              simp only
              have hsz := hbel.size
              let h' : GH := { F := fun b => h.F b ∨ (w.heap.size ≤ b ∧ b < w'.heap.size), bl := h.bl, K := h.K }
              have hok' : Ok B G w' h' := by
                refine ⟨Nat.le_trans hr.ok.base hsz, fun b hb => ?_, fun b hb => ?_, fun b hb => .inl (hr.ok.g_F b hb), fun t j b hb => ?_, hr.ok.inj, fun b hb => Nat.lt_of_lt_of_le (hr.ok.k_lt b hb) hsz, hr.ok.k_bl, fun b hb => ?_⟩
                · rcases hb with hb | hb
                  · exact Nat.lt_of_lt_of_le (hr.ok.f_lt b hb) hsz
                  · exact hb.2
                · rcases hb with hb | hb
                  · exact hr.ok.f_or b hb
                  · exact .inr (Nat.le_trans hr.ok.base hb.1)
                · obtain ⟨h1, h2, h3⟩ := hr.ok.b_lt t j b hb
                  refine ⟨h1, Nat.lt_of_lt_of_le h2 hsz, fun hF => ?_⟩
                  rcases hF with hF | hF
                  · exact h3 hF
                  · omega
                · rcases hb with hb | hb
                  · exact hr.ok.k_F b hb
                  · exact .inr fun hkb => by have := hr.ok.k_lt b hkb; omega
              have hstep : Step B [d] [d] [] w w' h h' := ⟨hbel.mono hr.ok.base, fun b hb _ => hbel.block b hb, fun b hb => .inl hb, fun _ _ _ => rfl, fun _ _ => rfl, fun _ _ _ _ hm => (by simp at hm), rfl⟩
              rw [hd]
              refine hK _ _ h' (post_one (hdst d hd) hstep hok' hh ⟨r, by simp only [eval, hget], ?_⟩) ⟨_, by rw [hd]⟩
              -- what it returns
              have hext : ∀ b, h.ext as.2 b → h'.ext as.2 b := fun b hb => by
                rcases hb with hb | hb
                · exact .inl (.inl hb)
                · exact .inr hb
              split
              · rename_i hor
                simp only [Bool.or_eq_true] at hor
                rcases hor with hflat | hfresh
                · have hfr := hfl hflat
                  unfold flV at hfr
                  split at hfr
                  · cases hfr
                  · rename_i hnt
                    split at hfr
                    · rename_i hall
                      exact hrd.flatAll (fun y hy => List.all_eq_true.1 hall y hy) fun l hl => hnt l hl
                    · cases hfr
                · refine hrd.mono fun b hb => ?_
                  rcases hb with ⟨hb, _⟩ | hb
                  · rw [hfresh] at hb; cases hb
                  · exact .inl (.inr hb)
              · refine hrd.mono fun b hb => ?_
                rcases hb with ⟨_, hb⟩ | hb
                · exact hext b hb
                · exact .inl (.inr hb)
          · cases hcall
        · rw [if_neg (by rw [hw2 hh]; simp)]
          rw [hd]
          exact hK _ _ h (post_skip (hdst d hd) hr.ok hh) ⟨_, by rw [hd]⟩
    · cases hst
    · split at hst
      · -- its own temporary alone
        rename_i k es d hpk hd
        have hres : ∃ k' efs chks, os = { d := [(d, C, k')], ps := [d], rb := [d], fz := [], efs, chks } ∧ (holds s (ixC c C) → (∀ e ∈ es, ∃ z, eval s e = some z) ∧ ∀ {v w' h'}, RelK c.P B s w' h' (fun p => a.tmps[p]?) d v k → RelK c.P B s w' h' (fun p => (a.put (some d) v).tmps[p]?) d v k') := by
          unfold stepPK at hst
          split at hst
          · split at hst
            · rename_i e
              split at hst
              · cases hst
              · simp only [Option.some.injEq] at hst
                subst hst
                refine ⟨_, _, _, rfl, fun hh => ⟨fun e he => hok.2 (ixC c C, e) (List.mem_map.2 ⟨e, he, rfl⟩) hh, fun hk => ?_⟩⟩
                obtain ⟨x, hx, hget⟩ := hok.1 _ (List.Mem.head _) hh
                obtain ⟨y, hy, hyr⟩ := hk
                rw [hx] at hy; cases hy
                exact ⟨x, by simp only [eval, hget], hyr⟩
            · cases hst
          · split at hst
            · cases hst
            · rename_i ht
              simp only [Bool.or_eq_true, not_or, Bool.not_eq_true] at ht
              simp only [Option.some.injEq] at hst
              subst hst
              refine ⟨_, _, _, rfl, fun hh => ⟨fun e he => hok.2 (ixC c C, e) (List.mem_map.2 ⟨e, he, rfl⟩) hh, fun hk => hk.other ht.1⟩⟩
        obtain ⟨k', efs, chks, rfl, hrel⟩ := hres
        by_cases hh : holds s (ixC c C)
        · rw [if_pos (hw1 hh)]
          left
          obtain ⟨hes, hrel⟩ := hrel hh
          obtain ⟨v, w', hrun, h', hs', hok', hk'⟩ := pkOf_run hr hh hpk hes d hd
          unfold Oper.wp
          rw [hrun, Oper.upon_value, hd]
          exact hK _ _ h' (post_one (hdst d hd) hs' hok' hh (hrel hk')) ⟨_, by rw [hd]⟩
        · rw [if_neg (by rw [hw2 hh]; simp), hd]
          exact hK _ _ h (post_skip (hdst d hd) hr.ok hh) ⟨_, by rw [hd]⟩
      · -- more than that
        split at hst
        · cases hst
        · rename_i hguard
          have hgn : o.guard = none := by cases hg : o.guard <;> simp_all
          have hCn : C = [] := by
            unfold condsOf at hC
            rw [hgn] at hC
            simpa using hC.symm
          subst hCn
          rw [if_pos (hw1 (holds_ix0 s c))]
          left
          simp only [Option.bind_eq_some_iff] at hst
          obtain ⟨m, hm, hst⟩ := hst
          split at hst
          · rename_i hsub
            simp only [Bool.and_eq_true, List.all_eq_true, List.contains_eq_mem, decide_eq_true_eq] at hsub
            obtain ⟨⟨hps, hrb⟩, hdin⟩ := hsub
            simp only [Option.some.injEq] at hst
            subst hst
            obtain ⟨n, u, w', h', hrun, hn', hpost⟩ := mk_run hr hdst hm fun e he => hok.2 ([], e) (List.mem_map.2 ⟨e, he, rfl⟩) (holds_nil s)
            have htm : ∀ t, t ∉ m.ps → (a.put o.dst u).tmps[t]? = a.tmps[t]? := by
              intro t ht
              cases hd : o.dst with
              | none => rfl
              | some d =>
                refine put_ne (fun e => ht ?_) u
                rw [e]
                simpa [dstIn, hd] using hdin
            have hfin : OPost c B G s a (a.put o.dst u) w w' h h' (stepM (only all (looks ops all o)) all m) := by
              refine ⟨hpost.step, hpost.ok, put_size _ _ _, put_defers _ _ _, htm, fun t ht => ?_⟩
              simp only [stepM, domOf, List.map_append, List.mem_append] at ht ⊢
              rw [at_append, at_append]
              simp only [domOf, List.map_append, List.mem_append]
              by_cases h1 : t ∈ domOf m.d
              · have h1' : t ∈ List.map (·.1) m.d := h1
                simp only [h1', true_or, if_true]
                obtain ⟨e1, e2⟩ := hpost.ent t h1
                exact ⟨fun _ hno => e2 hno, fun hn => absurd (by rw [e1]; exact holds_ix0 s c) hn⟩
              · have h1' : t ∉ List.map (·.1) m.d := h1
                by_cases h2 : t ∈ domOf (killD m.ps m.rb m.fz all)
                · have h2' : t ∈ List.map (·.1) (killD m.ps m.rb m.fz all) := h2
                  simp only [h1', h2', false_or, if_true, if_false, killD_at h2]
                  exact ⟨fun _ hno => by simp [TK.isNo] at hno, fun hn => absurd (holds_ix0 s c) hn⟩
                · have h2' : t ∉ List.map (·.1) (killD m.ps m.rb m.fz all) := h2
                  have h3 : t ∈ m.fz := by
                    rcases ht with (ht | ht) | ht
                    · exact absurd ht h1'
                    · exact absurd ht h2'
                    · have := freezeD_dom (fz := m.fz) (g := only all (looks ops all o))
                      unfold domOf at this
                      rw [this] at ht; exact ht
                  have htp : t ∉ m.ps := fun hp => h1 (hps t hp)
                  have hcalm : calm m.ps m.rb m.fz ((only all (looks ops all o)).at t).2 = true := by
                    rw [only_at]
                    split
                    · exact killD_not' h2
                    · exact calm_no _ _ _
                  simp only [h1', h2', false_or, if_false, freezeD_at h3]
                  refine ⟨fun hCt hno => ?_, fun hn => ?_⟩
                  · have hno' : ((only all (looks ops all o)).at t).2.isNo = false := by
                      cases hk : ((only all (looks ops all o)).at t).2 <;> first | rfl | (rw [hk] at hno; simp [freezeK, TK.isNo] at hno)
                    obtain ⟨v, hv, hk⟩ := hr.at_ t hCt hno'
                    exact ⟨v, by rw [htm t htp]; exact hv, hk.freeze hpost.step hr.ok hrb htp h3 hcalm htm⟩
                  · have := hr.skip t hn
                    simp only [Array.getD_eq_getD_getElem?, htm t htp] at this ⊢
                    exact this
            unfold Oper.wp
            rw [hrun]
            rcases hn' with rfl | ⟨rfl, rfl⟩
            · rw [Oper.upon_value]; exact hK _ _ h' hfin ⟨_, rfl⟩
            · rw [Oper.upon_skip]; exact hK _ _ h' hfin ⟨_, rfl⟩
          · cases hst
end
end Vm
