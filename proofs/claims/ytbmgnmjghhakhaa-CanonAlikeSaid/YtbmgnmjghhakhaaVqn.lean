/-
  What a call comes to that writes what it is handed.
-/
import Derived.Test.YtbmgnmjghhakhaaVqm
namespace Vm
open Go
open Go.RowKit (Below)
set_option linter.unusedSimpArgs false
set_option linter.unusedVariables false

section
variable {c : Ctx} {B : Nat} {G : Nat → Prop} {s : St} {a a' : Act} {w w' : World} {h h' hx : GH} {g : Gam} {C : Conds} {fz ps rb : List Nat} {ops : Array Oper} {ks : List OT} {as : List (E × Option Nat)}

/-! ### What one operation comes to -/
structure OPost (c : Ctx) (B : Nat) (G : Nat → Prop) (s : St) (a a' : Act) (w w' : World) (h h' : GH) (os : OS) : Prop where
  step : Step B os.ps os.rb os.fz w w' h h'
  ok : Ok B G w' h'
  size : a'.tmps.size = a.tmps.size
  defers : a'.defers = a.defers
  tm : ∀ t, t ∉ os.ps → a'.tmps[t]? = a.tmps[t]?
  ent : ∀ t ∈ domOf os.d, (holds s (ixC c (os.d.at t).1) → (os.d.at t).2.isNo = false → ∃ v, a'.tmps[t]? = some v ∧ RelK c.P B s w' h' (fun p => a'.tmps[p]?) t v (os.d.at t).2) ∧ (¬ holds s (ixC c (os.d.at t).1) → a'.tmps.getD t undef = undef)

theorem put_size (a : Act) (d : Option Nat) (v : Value) : (a.put d v).tmps.size = a.tmps.size := by
  cases d <;> simp [Act.put]
theorem put_defers (a : Act) (d : Option Nat) (v : Value) : (a.put d v).defers = a.defers := by
  cases d <;> rfl
theorem put_tm {d : Nat} (v : Value) {t : Nat} (ht : t ∉ [d]) : (a.put (some d) v).tmps[t]? = a.tmps[t]? := put_ne (by simpa using ht) v

/-- the caller's blocks behind the call -/
def backGH (h hx : GH) (as : List (E × Option Nat)) : GH :=
  { F := fun b => h.F b ∨ hx.F b, K := h.K,
    bl := fun u j => match slotIx as u with
      | some i => if j = 0 then h.bl u 0 else hx.bl i j
      | none => h.bl u j }

theorem not_K {b : Nat} (hlt : b < w.heap.size) (hn : ¬ (callGH g h w ks as).K b) : ∃ i j, callBl g h ks as i j = some b := by
  by_cases hex : ∃ i j, callBl g h ks as i j = some b
  · exact hex
  · exact absurd ⟨hlt, fun i j hb => hex ⟨i, j, hb⟩⟩ hn

theorem back_ok (hok : Ok B G w h) (hn : (as.filterMap (·.2)).Nodup) (hokx : Ok B h.F w' hx) (hK : hx.K = (callGH g h w ks as).K) (hsz : w.heap.size ≤ w'.heap.size)
    (hks : ∀ (i : Nat) (e : E) (p : Nat), as[i]? = some (e, some p) → (∃ l, ks[i]? = some (.mem l) ∧ hx.bl i 0 = h.bl p 0) ∨ ∃ ty, ks[i]? = some (.own ty)) : Ok B G w' (backGH h hx as) := by
  have hKlt : ∀ b, h.K b → (callGH g h w ks as).K b := fun b hb => ⟨hok.k_lt b hb, fun i j hbl => by
    obtain ⟨p, _, _, _, _, _, h1, _⟩ := callBl_some hbl
    exact hok.k_bl p j b h1 hb⟩
  have isK : ∀ {t j b : Nat}, h.bl t j = some b → slotIx as t = none → hx.K b := by
    intro t j b hb ht
    rw [hK]
    refine ⟨(hok.b_lt t j b hb).2.1, fun i q hbl => ?_⟩
    obtain ⟨p, e, _, h1, _, _, h3, _⟩ := callBl_some hbl
    obtain ⟨rfl, _⟩ := hok.inj t j p q b hb h3
    exact slotIx_none ht (slot_mem h1)
  have isK0 : ∀ {t i : Nat} {e : E} {b : Nat}, as[i]? = some (e, some t) → (∃ ty, ks[i]? = some (OT.own ty)) → h.bl t 0 = some b → hx.K b := by
    intro t i e b hi hk hb
    rw [hK]
    refine ⟨(hok.b_lt t 0 b hb).2.1, fun i' q hbl => ?_⟩
    obtain ⟨p, e', k, h1, h2, _, h3, h4⟩ := callBl_some hbl
    obtain ⟨rfl, rfl⟩ := hok.inj t 0 p q b hb h3
    have := slot_inj hn hi h1
    subst this
    obtain ⟨ty, hk⟩ := hk
    rw [hk] at h2; cases h2
    have := h4 ty rfl; omega
  have notF : ∀ {t j b : Nat}, h.bl t j = some b → hx.K b → ¬ (h.F b ∨ hx.F b) := by
    intro t j b hb hkb hF
    rcases hF with hF | hF
    · exact (hok.b_lt t j b hb).2.2 hF
    · rcases hokx.k_F b hF with h1 | h1
      · exact (hok.b_lt t j b hb).2.2 h1
      · exact h1 hkb
  refine ⟨hokx.base, fun b hb => ?_, fun b hb => ?_, fun b hb => .inl (hok.g_F b hb), fun t j b hb => ?_, fun t j u q b hb hb' => ?_, fun b hb => Nat.lt_of_lt_of_le (hok.k_lt b hb) hsz, fun t j b hb hkb => ?_, fun b hb => ?_⟩
  · rcases hb with hb | hb
    · exact Nat.lt_of_lt_of_le (hok.f_lt b hb) hsz
    · exact hokx.f_lt b hb
  · rcases hb with hb | hb
    · exact hok.f_or b hb
    · rcases hokx.f_or b hb with h1 | h1
      · exact hok.f_or b h1
      · exact .inr h1
  · simp only [backGH] at hb ⊢
    split at hb
    · rename_i i hix
      obtain ⟨e, hi⟩ := slotIx_some hix
      split at hb
      · rename_i hj; subst hj
        rcases hks i e t hi with ⟨l, hk, h0⟩ | hk
        · rw [← h0] at hb
          obtain ⟨q1, q2, q3⟩ := hokx.b_lt i 0 b hb
          refine ⟨q1, q2, fun hF => ?_⟩
          rcases hF with hF | hF
          · exact q3 (hokx.g_F b hF)
          · exact q3 hF
        · obtain ⟨q1, q2, _⟩ := hok.b_lt t 0 b hb
          exact ⟨q1, Nat.lt_of_lt_of_le q2 hsz, notF hb (isK0 hi hk hb)⟩
      · obtain ⟨q1, q2, q3⟩ := hokx.b_lt i j b hb
        refine ⟨q1, q2, fun hF => ?_⟩
        rcases hF with hF | hF
        · exact q3 (hokx.g_F b hF)
        · exact q3 hF
    · rename_i hix
      obtain ⟨q1, q2, _⟩ := hok.b_lt t j b hb
      exact ⟨q1, Nat.lt_of_lt_of_le q2 hsz, notF hb (isK hb hix)⟩
  · -- whose block is whose
    have place : ∀ {t j : Nat}, (backGH h hx as).bl t j = some b → (∃ i e, as[i]? = some (e, some t) ∧ hx.bl i j = some b) ∨ (h.bl t j = some b ∧ hx.K b) := by
      intro t j hb
      simp only [backGH] at hb
      split at hb
      · rename_i i hix
        obtain ⟨e, hi⟩ := slotIx_some hix
        split at hb
        · rename_i hj; subst hj
          rcases hks i e t hi with ⟨l, hk, h0⟩ | hk
          · exact .inl ⟨i, e, hi, by rw [h0]; exact hb⟩
          · exact .inr ⟨hb, isK0 hi hk hb⟩
        · exact .inl ⟨i, e, hi, hb⟩
      · rename_i hix
        exact .inr ⟨hb, isK hb hix⟩
    rcases place hb with ⟨i, e, hi, h1⟩ | ⟨h1, h2⟩ <;> rcases place hb' with ⟨i', e', hi', h1'⟩ | ⟨h1', h2'⟩
    · obtain ⟨rfl, rfl⟩ := hokx.inj i j i' q b h1 h1'
      rw [hi] at hi'; cases hi'
      exact ⟨rfl, rfl⟩
    · exact absurd h2' (hokx.k_bl i j b h1)
    · exact absurd h2 (hokx.k_bl i' q b h1')
    · exact hok.inj t j u q b h1 h1'
  · have hkx := hKlt b hkb
    rw [← hK] at hkx
    simp only [backGH] at hb
    split at hb
    · rename_i i hix
      split at hb
      · exact hok.k_bl t 0 b (by assumption) hkb
      · exact hokx.k_bl i j b hb hkx
    · exact hok.k_bl t j b hb hkb
  · rcases hb with hb | hb
    · exact hok.k_F b hb
    · rcases hokx.k_F b hb with h1 | h1
      · exact hok.k_F b h1
      · exact .inr fun hkb => h1 (by rw [hK]; exact hKlt b hkb)

theorem back_step (hok : Ok B G w h) {d : Nat} (hbel : Below B w w') (hsame : Same (callGH g h w ks as).K w w') : Step B (d :: as.filterMap (·.2)) [d] [] w w' h (backGH h hx as) := by
  refine ⟨hbel, fun b hlt hn => hsame b ⟨hlt, fun i j hb => ?_⟩, fun b hb => .inl hb, fun t ht _ => ?_, fun t ht => ?_, fun _ _ _ _ hm => (by simp at hm), rfl⟩
  · obtain ⟨p, e, _, h1, _, _, h3, _⟩ := callBl_some hb
    exact hn p (by simp only [List.mem_cons]; exact .inr (slot_mem h1)) j h3
  · have hno : slotIx as t = none := by
      cases hix : slotIx as t with
      | none => rfl
      | some i =>
        obtain ⟨e, hi⟩ := slotIx_some hix
        exact absurd (List.mem_cons_of_mem _ (slot_mem hi)) ht
    funext j
    simp only [backGH, hno]
  · simp only [backGH]
    split <;> simp

/-- what the state tells of what was handed on -/
theorem outsM_at {i0 : Nat} : ∀ {q : Nat} {ks : List OT} {as : List (E × Option Nat)} {ys : List V}, as.length = ks.length → ys.length = ks.length → (∀ (j : Nat) (k : OT) (y : E × Option Nat), ks[j]? = some k → as[j]? = some y → (y.2 = none ↔ k = OT.fz)) → ∀ (t : Nat), t ∈ domOf (outsM i0 q ks as) →
    ∃ (j : Nat) (k : OT) (e : E) (y : V) (r : Nat), ks[j]? = some k ∧ as[j]? = some (e, some t) ∧ ys[j]? = some y ∧ (outsM i0 q ks as).at t = ([], newK i0 (q + r) k) ∧ (outsV ks ys)[r]? = some y
  | q, [], as, ys, _, _, _, t, ht => by
    have : outsM i0 q [] as = [] := by unfold outsM; rfl
    rw [this] at ht; simp [domOf] at ht
  | q, k :: ks, [], ys, h1, _, _, t, ht => by simp at h1
  | q, k :: ks, (e, o) :: as, [], _, h2, _, t, ht => by simp at h2
  | q, k :: ks, (e, o) :: as, y :: ys, h1, h2, h3, t, ht => by
    have hk := h3 0 k (e, o) rfl rfl
    have h3' : ∀ (j : Nat) (k : OT) (y : E × Option Nat), ks[j]? = some k → as[j]? = some y → (y.2 = none ↔ k = .fz) := fun j k y h4 h5 => h3 (j + 1) k y (by simpa using h4) (by simpa using h5)
    cases o with
    | none =>
      have hkz : k = .fz := hk.1 rfl
      subst hkz
      have e1 : outsM i0 q (.fz :: ks) ((e, none) :: as) = outsM i0 q ks as := by simp only [outsM]
      have e2 : outsV (.fz :: ks) (y :: ys) = outsV ks ys := by simp only [outsV]
      rw [e1] at ht ⊢
      obtain ⟨j, k', e', y', r, q1, q2, q3, q4, q5⟩ := outsM_at (ys := ys) (by simpa using h1) (by simpa using h2) h3' t ht
      exact ⟨j + 1, k', e', y', r, by simpa using q1, by simpa using q2, by simpa using q3, q4, by rw [e2]; exact q5⟩
    | some p =>
      have hkz : k ≠ .fz := fun e => by have := hk.2 e; cases this
      have e1 : outsM i0 q (k :: ks) ((e, some p) :: as) = (p, [], newK i0 q k) :: outsM i0 (q + 1) ks as := by simp only [outsM]
      have e2 : outsV (k :: ks) (y :: ys) = y :: outsV ks ys := by cases k <;> first | exact absurd rfl hkz | simp only [outsV]
      rw [e1] at ht ⊢
      by_cases hpt : p = t
      · subst hpt
        exact ⟨0, k, e, y, 0, rfl, rfl, rfl, by simp [Gam.at], by rw [e2]; rfl⟩
      · have ht' : t ∈ domOf (outsM i0 (q + 1) ks as) := by
          simp only [domOf, List.map_cons, List.mem_cons] at ht
          exact ht.resolve_left fun e => hpt e.symm
        obtain ⟨j, k', e', y', r, q1, q2, q3, q4, q5⟩ := outsM_at (ys := ys) (by simpa using h1) (by simpa using h2) h3' t ht'
        exact ⟨j + 1, k', e', y', r + 1, by simpa using q1, by simpa using q2, by simpa using q3, by simp only [Gam.at, if_neg hpt]; rw [q4, Nat.add_assoc, Nat.add_comm 1 r], by rw [e2]; simpa using q5⟩
theorem outsM_dom {i0 : Nat} : ∀ {q : Nat} {ks : List OT} {as : List (E × Option Nat)}, as.length = ks.length → domOf (outsM i0 q ks as) = as.filterMap (·.2)
  | q, [], [], _ => by simp [outsM, domOf]
  | q, [], _ :: _, h => by simp at h
  | q, k :: ks, [], h => by simp at h
  | q, k :: ks, (e, o) :: as, h => by
    cases o with
    | none =>
      have e1 : outsM i0 q (k :: ks) ((e, none) :: as) = outsM i0 q ks as := by simp only [outsM]
      rw [e1, outsM_dom (by simpa using h)]
      simp
    | some p =>
      have e1 : outsM i0 q (k :: ks) ((e, some p) :: as) = (p, [], newK i0 q k) :: outsM i0 (q + 1) ks as := by simp only [outsM]
      rw [e1]
      have := outsM_dom (i0 := i0) (q := q + 1) (ks := ks) (as := as) (by simpa using h)
      simp only [domOf, List.map_cons] at this ⊢
      rw [this]
      simp

/-- a slot's kind behind the call -/
theorem newK_rel {P : Program} {i0 q j p : Nat} {k : OT} {y : V} {L : List V} {v : Value} (hk : k ≠ .fz) (hst : get s i0 = .v (.tup L)) (hq : L[q]? = some y) {hx h' : GH} (hrel : ∃ tk, argK k y = some tk ∧ RelK P B [] w' hx (fun _ => none) j v tk)
    (hF : ∀ b, hx.F b → h'.F b) (h0 : (∃ l, k = .mem l) → h'.bl p 0 = hx.bl j 0) (hbl : ∀ i, h'.bl p (i + 1) = hx.bl j (i + 1)) (tm : Nat → Option Value) : RelK P B s w' h' tm p v (newK i0 q k) := by
  obtain ⟨tk, harg, hrel⟩ := hrel
  have hext : eval s (.ext (.s i0) q) = some y := by simp only [eval, hst, Option.bind_some, extV, hq]
  cases k with
  | fz => exact absurd rfl hk
  | own ty =>
    simp only [argK, Option.some.injEq] at harg
    subst harg
    obtain ⟨x, hx1, hown⟩ := hrel
    simp only [eval, Option.some.injEq] at hx1
    subst hx1
    exact ⟨y, hext, hown.mono hF (hbl 0).symm⟩
  | mem l =>
    cases y <;> simp only [argK] at harg <;> first | (cases harg; done) | skip
    rename_i cs
    split at harg
    · rename_i hlen
      simp only [Option.some.injEq] at harg
      subst harg
      obtain ⟨b, vs, T, e1, e2, e3, e4, e5⟩ := hrel
      refine ⟨b, vs, T, by rw [h0 ⟨l, rfl⟩]; exact e1, e2, e3, by rw [e4]; simp; omega, fun i ck hi => ?_⟩
      simp only [List.getElem?_map, Option.map_eq_some_iff] at hi
      obtain ⟨⟨kk, i'⟩, hi, rfl⟩ := hi
      rw [List.getElem?_zipIdx, Option.map_eq_some_iff] at hi
      obtain ⟨kk', hi, hki⟩ := hi
      simp only [Prod.mk.injEq, Nat.zero_add] at hki
      obtain ⟨rfl, rfl⟩ := hki
      have hlt : i < cs.length := by rw [hlen]; exact (List.getElem?_eq_some_iff.1 hi).1
      have hc := e5 i (kk', .c cs[i]) (by rw [List.getElem?_map, Option.map_eq_some_iff]; exact ⟨(kk', cs[i]), by rw [List.getElem?_zip_eq_some]; exact ⟨hi, List.getElem?_eq_getElem hlt⟩, rfl⟩)
      show RelC P B s w' h' (h'.bl p (i + 1)) kk' (.fld (.ext (.s i0) q) i) (vs.getD i undef)
      rw [hbl]
      have hfld : cs[i].one = true → eval s (.fld (.ext (.s i0) q) i) = some cs[i] := fun h1 => by
        simp only [eval, hst, Option.bind_some, extV, hq, fldV, V.pc, List.getElem?_eq_getElem hlt, oneV, h1, if_true]
      cases kk' with
      | fz =>
        obtain ⟨x, q1, q2, q3⟩ := hc
        simp only [eval, Option.some.injEq] at q1
        subst q1
        exact ⟨_, hfld q2, q2, q3.mono hF⟩
      | own ty =>
        obtain ⟨x, q1, q2⟩ := hc
        simp only [eval, Option.some.injEq] at q1
        subst q1
        exact ⟨_, hfld q2.one, q2.mono hF rfl⟩
      | nil =>
        obtain ⟨q1, q2⟩ := hc
        simp only [eval, Option.some.injEq] at q2
        exact ⟨q1, by rw [hfld (by rw [q2]; rfl), q2]⟩
      | dead => exact hc
    · cases harg
  | nil => simp [argK] at harg
  | clo f l => simp [argK] at harg

theorem passAll_get : ∀ {ks : List OT} {aps : List AP} {as : List (E × Option Nat)}, passAll c g C ks aps = some as → aps.length = ks.length ∧ as.length = ks.length ∧ ∀ (i : Nat) (k : OT) (x : AP) (y : E × Option Nat), ks[i]? = some k → aps[i]? = some x → as[i]? = some y → passOne c g C k x = some y
  | [], [], as, h => by
    simp only [passAll, Option.some.injEq] at h
    subst h
    exact ⟨rfl, rfl, fun i k x y hk => by simp at hk⟩
  | [], _ :: _, as, h => by simp [passAll] at h
  | _ :: _, [], as, h => by simp [passAll] at h
  | k :: ks, x :: l, as, h => by
    simp only [passAll, Option.bind_eq_some_iff, Option.map_eq_some_iff] at h
    obtain ⟨y, hy, ys, hys, rfl⟩ := h
    obtain ⟨h1, h2, h3⟩ := passAll_get hys
    refine ⟨by simp [h1], by simp [h2], fun i k' x' y' q1 q2 q3 => ?_⟩
    cases i with
    | zero => simp at q1 q2 q3; subst q1 q2 q3; exact hy
    | succ i => exact h3 i k' x' y' (by simpa using q1) (by simpa using q2) (by simpa using q3)

/-- all that is handed on is as the callee asks -/
theorem args_rel (hr : RelG c B G s a w h g) (hC : holds s (ixC c C)) {aps : List AP} (hp : passAll c g C ks aps = some as) {xs : List V} (hxs : evals s (as.map (·.1)) = some xs) {vs : Array Value} (hvl : vs.size = aps.length) (hvs : ∀ (i : Nat) (x : AP), aps[i]? = some x → apV a h x (vs.getD i undef)) :
    RelA c.P B w (callGH g h w ks as) ks xs vs := by
  obtain ⟨h1, h2, h3⟩ := passAll_get hp
  obtain ⟨h4, h5⟩ := evals_map hxs
  refine ⟨by rw [h4]; simpa using h2, by omega, fun i k x hk hx => ?_⟩
  have hlt : i < ks.length := (List.getElem?_eq_some_iff.1 hk).1
  have ha : aps[i]? = some aps[i] := List.getElem?_eq_getElem (by omega)
  have hs : as[i]? = some as[i] := List.getElem?_eq_getElem (by omega)
  obtain ⟨x', hx1, hx2⟩ := h5 i (as[i]).1 (by rw [List.getElem?_map, hs]; rfl)
  rw [hx] at hx1; cases hx1
  exact (pass_rel hr hC (h3 i k _ _ hk ha hs) hx2 (hvs i _ ha) hk hs).1

/-- behind the call -/
theorem callM_post (hr : RelG c B G s a w h g) {aps : List AP} (hp : passAll c g C ks aps = some as) (hn : (as.filterMap (·.2)).Nodup) {d : Nat} (hd : d < a.tmps.size) (hdp : d ∉ as.filterMap (·.2)) {all : Gam} {efs : List EF} {chks : List (Conds × E)} {kd : TK}
    {vs : Array Value} (hslot : ∀ (i : Nat) (e : E) (p : Nat), as[i]? = some (e, some p) → a.tmps[p]? = some (vs.getD i undef) ∧ ((∃ l b, ks[i]? = some (.mem l) ∧ h.bl p 0 = some b ∧ vs.getD i undef = .pointer (some ⟨b, 0, none⟩)) ∨ ∃ ty, ks[i]? = some (.own ty)))
    (hz : ∀ (j : Nat) (k : OT) (y : E × Option Nat), ks[j]? = some k → as[j]? = some y → (y.2 = none ↔ k = OT.fz))
    (hokx : Ok B h.F w' hx) (hK : hx.K = (callGH g h w ks as).K) (hbel : Below B w w') (hsame : Same (callGH g h w ks as).K w w') {ys : List V} (hB : RelB c.P B w' hx ks ys vs) {r0 : V} (hget : outsV ks ys ≠ [] → get s (c.ix d) = .v (.tup (r0 :: outsV ks ys)))
    {u : Value} (hu : holds s (ixC c C) → RelK c.P B s w' (backGH h hx as) (fun p => (a.put (some d) u).tmps[p]?) d u kd) (hu' : ¬ holds s (ixC c C) → u = undef) :
    OPost c B G s a (a.put (some d) u) w w' h (backGH h hx as) { d := (d, C, kd) :: outsM (c.ix d) 1 ks as ++ killD (d :: as.filterMap (·.2)) [d] [] all, ps := d :: as.filterMap (·.2), rb := [d], fz := [], efs, chks } := by
  obtain ⟨h1, h2, h3⟩ := passAll_get hp
  have hks : ∀ (i : Nat) (e : E) (p : Nat), as[i]? = some (e, some p) → (∃ l, ks[i]? = some (.mem l) ∧ hx.bl i 0 = h.bl p 0) ∨ ∃ ty, ks[i]? = some (.own ty) := by
    intro i e p hi
    obtain ⟨_, hcase⟩ := hslot i e p hi
    rcases hcase with ⟨l, b, hk, hb, hv⟩ | hk
    · refine .inl ⟨l, hk, ?_⟩
      have hlt : i < ys.length := by rw [hB.1]; exact (List.getElem?_eq_some_iff.1 hk).1
      obtain ⟨tk, harg, hrel⟩ := hB.2 i _ ys[i] hk (by simp) (List.getElem?_eq_getElem hlt)
      generalize ys[i] = y at harg
      cases y <;> simp only [argK] at harg <;> first | (cases harg; done) | skip
      split at harg
      · simp only [Option.some.injEq] at harg
        subst harg
        obtain ⟨b', vs', T, e1, e2, _⟩ := hrel
        rw [hv] at e2
        simp only [Value.pointer.injEq, Option.some.injEq, Addr.mk.injEq, and_true] at e2
        rw [e1, hb, e2]
      · cases harg
    · exact .inr hk
  have hok' := back_ok hr.ok hn hokx hK hbel.size hks
  have hst := back_step (hx := hx) (d := d) hr.ok hbel hsame
  refine ⟨hst, hok', put_size _ _ _, put_defers _ _ _, fun t ht => put_ne (fun e => ht (by simp [e])) u, fun t ht => ?_⟩
  simp only [List.cons_append, Gam.at]
  by_cases hdt : d = t
  · subst hdt
    simp only [if_true]
    refine ⟨fun hh _ => ⟨u, put_at hd u, hu hh⟩, fun hh => ?_⟩
    rw [hu' hh]
    simp only [Array.getD_eq_getD_getElem?, put_at hd, Option.getD_some]
  · rw [if_neg hdt, at_append]
    by_cases hto : t ∈ domOf (outsM (c.ix d) 1 ks as)
    · rw [if_pos hto]
      obtain ⟨j, k, e, y, r, q1, q2, q3, q4, q5⟩ := outsM_at (i0 := c.ix d) (q := 1) (ys := ys) h2 hB.1 hz t hto
      rw [q4]
      refine ⟨fun _ _ => ⟨vs.getD j undef, by rw [put_ne (Ne.symm hdt)]; exact (hslot j e t q2).1, ?_⟩, fun hh => absurd (holds_ix0 s c) hh⟩
      have hkz : k ≠ .fz := fun e' => by have := (hz j k _ q1 q2).2 e'; cases this
      have hix := slotIx_of hn q2
      refine newK_rel (h' := backGH h hx as) hkz (hget fun e' => by rw [e'] at q5; simp at q5) (by rw [Nat.add_comm]; simpa using q5) (hB.2 j k y q1 hkz q3) (fun b hb => .inr hb) (fun hm => ?_) (fun i => by simp [backGH, hix]) _
      rcases hks j e t q2 with ⟨l, _, h0⟩ | ⟨ty, hty⟩
      · simp [backGH, hix, h0]
      · obtain ⟨l, rfl⟩ := hm
        rw [q1] at hty; cases hty
    · rw [if_neg hto]
      have htk : t ∈ domOf (killD (d :: as.filterMap (·.2)) [d] [] all) := by
        simp only [domOf, List.map_cons, List.map_append, List.cons_append, List.mem_cons, List.mem_append] at ht hto ⊢
        rcases ht with ht | ht | ht
        · exact absurd ht.symm hdt
        · exact absurd ht hto
        · exact ht
      rw [killD_at htk]
      exact ⟨fun _ hno => by simp [TK.isNo] at hno, fun hh => absurd (holds_ix0 s c) hh⟩
end
end Vm
