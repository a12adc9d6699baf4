/-
  What it means that a frame and a world are as the kinds say.
-/
import Derived.Test.YtbmgnmjghhakhaaVc
namespace Vm
open Go

/-- the blocks that nobody writes any more, the blocks that the call's own variables, lists and maps have, and those that the call must leave as they were -/
structure GH where
  F : Nat → Prop
  bl : Nat → Nat → Option Nat
  K : Nat → Prop

structure Ok (B : Nat) (G : Nat → Prop) (w : World) (h : GH) : Prop where
  base : B ≤ w.heap.size
  f_lt : ∀ b, h.F b → b < w.heap.size
  f_or : ∀ b, h.F b → G b ∨ B ≤ b
  g_F : ∀ b, G b → h.F b
  b_lt : ∀ t i b, h.bl t i = some b → B ≤ b ∧ b < w.heap.size ∧ ¬ h.F b
  inj : ∀ t i u j b, h.bl t i = some b → h.bl u j = some b → t = u ∧ i = j
  k_lt : ∀ b, h.K b → b < w.heap.size
  k_bl : ∀ t i b, h.bl t i = some b → ¬ h.K b
  k_F : ∀ b, h.F b → G b ∨ ¬ h.K b

/-- the blocks at which a value is read that shares with the lists and variables of some slots -/
def GH.ext (h : GH) (sh : List Nat) (b : Nat) : Prop := h.F b ∨ ∃ p ∈ sh, ∃ i, h.bl p (i + 1) = some b
theorem GH.ext_F {h : GH} {sh : List Nat} {b : Nat} (hb : h.F b) : h.ext sh b := .inl hb
theorem GH.ext_nil {h : GH} {b : Nat} (hb : h.ext [] b) : h.F b := by
  rcases hb with hb | ⟨p, hp, _⟩
  · exact hb
  · simp at hp
theorem GH.ext_left {h : GH} {sh r : List Nat} {b : Nat} (hb : h.ext sh b) : h.ext (sh ++ r) b := by
  rcases hb with hb | ⟨p, hp, x⟩
  · exact .inl hb
  · exact .inr ⟨p, by simp [hp], x⟩
theorem GH.ext_right {h : GH} {sh r : List Nat} {b : Nat} (hb : h.ext r b) : h.ext (sh ++ r) b := by
  rcases hb with hb | ⟨p, hp, x⟩
  · exact .inl hb
  · exact .inr ⟨p, by simp [hp], x⟩

/-- a list of the call's own -/
def OwnL (P : Program) (B : Nat) (w : World) (h : GH) (o : Option Nat) (ty : TypeId) (x : V) (v : Value) : Prop :=
  ∃ l xs, x = .sl l ∧ 0 < P.cellsOf ty ∧ (∀ y ∈ l, y.fits (P.cellsOf ty)) ∧ w.ownsRow B ty (P.cellsOf ty) v l.length xs ∧ v.ownBlock = o ∧
    ∀ (i : Nat) (c : V), (flat l)[i]? = some c → ∃ u, xs[i]? = some u ∧ Rd w h.F c u

/-- a map of the call's own -/
def OwnM (B : Nat) (w : World) (h : GH) (o : Option Nat) (x : V) (v : Value) : Prop :=
  ∃ id ks xs b es clk, x = .mp id ks xs ∧ v = .map (some b) ∧ o = some b ∧ B ≤ b ∧ (id = 0 ∨ id = b + 1) ∧ w.heap[b]? = some (.map es clk) ∧ ks.length = es.size ∧ xs.length = es.size ∧
    (∀ (i : Nat) (c : V), ks[i]? = some c → Rd w h.F c (es.getD i default).key) ∧ ∀ (i : Nat) (c : V), xs[i]? = some c → Rd w h.F c (es.getD i default).val
/-- a list or a map of the call's own -/
def OwnV (P : Program) (B : Nat) (w : World) (h : GH) (o : Option Nat) (ty : TypeId) (x : V) (v : Value) : Prop := OwnL P B w h o ty x v ∨ OwnM B w h o x v

def plI : Option Nat → Nat
  | none => 1
  | some i => i + 1
def RelC (P : Program) (B : Nat) (s : St) (w : World) (h : GH) (o : Option Nat) (k : CK) (e : E) (v : Value) : Prop :=
  match k with
  | .fz => ∃ x, eval s e = some x ∧ x.one = true ∧ Rd w h.F x v
  | .own ty => ∃ x, eval s e = some x ∧ OwnV P B w h o ty x v
  | .nil => v = .slice none 0 0 ∧ eval s e = some (.sl [])
  | .dead => v.oneCell' = true

def RelCs (P : Program) (B : Nat) (s : St) (w : World) (h : GH) (t : Nat) (cs : List (CK × E)) (vs : Array Value) : Prop :=
  vs.size = cs.length ∧ ∀ i c, cs[i]? = some c → RelC P B s w h (h.bl t (i + 1)) c.1 c.2 (vs.getD i undef)

/-- the value v, in slot t, is of the kind k -/
def RelK (P : Program) (B : Nat) (s : St) (w : World) (h : GH) (tm : Nat → Option Value) (t : Nat) (v : Value) : TK → Prop
  | .no => True
  | .val e sh => ∃ x, eval s e = some x ∧ Rd w (h.ext sh) x v
  | .own ty e => ∃ x, eval s e = some x ∧ OwnV P B w h (h.bl t 1) ty x v
  | .nil => v = .slice none 0 0
  | .mem cs => ∃ b vs T, h.bl t 0 = some b ∧ v = .pointer (some ⟨b, 0, none⟩) ∧ w.heap[b]? = some (.cells vs T (0, 0)) ∧ RelCs P B s w h t cs vs
  | .ags cs => ∃ vs, v = .agg vs ∧ RelCs P B s w h t cs vs
  | .ref p => tm p = some v
  | .refm p i => ∃ b, h.bl p 0 = some b ∧ w.cell? ⟨b, i, none⟩ = some v
  | .pm p o => ∃ b, h.bl p 0 = some b ∧ v = .pointer (some ⟨b, o, none⟩)
  | .pc e o sh => ∃ x b q, ∃ vs : Nat → Value, eval s e = some x ∧ v = .pointer (some ⟨b, q + o, none⟩) ∧ h.ext sh b ∧ (∀ c ∈ x.pc, c.one = true) ∧
      (∀ i, i < x.pc.length → w.cell? ⟨b, q + i, none⟩ = some (vs i)) ∧ ∀ i c, x.pc[i]? = some c → Rd w (h.ext sh) c (vs i)
  | .pe p i j o k => ∃ n q, h.bl p (plI i) = some n ∧ (∃ ki, eval s j = some (.int ki (q : Nat))) ∧ v = .pointer (some ⟨n, q * k + o, none⟩)
  | .pa p o j n k => ∃ b q, h.bl p 0 = some b ∧ (∃ ki, eval s j = some (.int ki (q : Nat))) ∧ q < n ∧ v = .pointer (some ⟨b, o + q * k, none⟩)
  | .clo f caps => ∃ vs : Array Value, v = .func (.func f) #[] vs ∧ vs.size = caps.length ∧ ∀ (i p : Nat), caps[i]? = some p → ∃ b, h.bl p 0 = some b ∧ vs[i]? = some (.pointer (some ⟨b, 0, none⟩))

def holds (s : St) (C : Conds) : Prop := ∀ x ∈ C, get s x.1 = .v (.bool x.2)
theorem holds_nil (s : St) : holds s [] := fun _ h => by simp at h
theorem holds_append {s : St} {C D : Conds} : holds s (C ++ D) ↔ holds s C ∧ holds s D := by
  unfold holds
  constructor
  · intro h; exact ⟨fun x hx => h x (by simp [hx]), fun x hx => h x (by simp [hx])⟩
  · rintro ⟨h1, h2⟩ x hx
    rcases List.mem_append.1 hx with hx | hx
    · exact h1 x hx
    · exact h2 x hx
theorem holds_in {s : St} {c : Ctx} {C D : Conds} (h : condsIn C D = true) (hd : holds s (ixC c D)) : holds s (ixC c C) := by
  intro x hx
  simp only [ixC, List.mem_map] at hx
  obtain ⟨y, hy, rfl⟩ := hx
  refine hd (c.ix y.1, y.2) ?_
  simp only [condsIn, List.all_eq_true] at h
  have := h y hy
  simp only [ixC, List.mem_map]
  exact ⟨y, by simpa using this, rfl⟩

/-- every slot's value is of the kind that is told, where its conditions hold; where they don't, nothing is there -/
structure RelG (c : Ctx) (B : Nat) (G : Nat → Prop) (s : St) (a : Act) (w : World) (h : GH) (g : Gam) : Prop where
  ok : Ok B G w h
  at_ : ∀ t, holds s (ixC c (g.at t).1) → (g.at t).2.isNo = false → ∃ v, a.tmps[t]? = some v ∧ RelK c.P B s w h (fun p => a.tmps[p]?) t v (g.at t).2
  skip : ∀ t, ¬ holds s (ixC c (g.at t).1) → a.tmps.getD t undef = undef

theorem Act.eval_tmp (a : Act) (t : Nat) (v : Value) (h : a.tmps[t]? = some v) : a.eval (.tmp t) = v := by
  simp only [Act.eval, Array.getD_eq_getD_getElem?, h, Option.getD_some]

theorem look_some {g : Gam} {C : Conds} {t : Nat} {k : TK} (h : look g C t = k) (hk : k.isNo = false) : (g.at t).2 = k ∧ condsIn (g.at t).1 C = true := by
  unfold look at h
  simp only at h
  split at h
  · exact ⟨h, by assumption⟩
  · subst h; simp [TK.isNo] at hk

section
variable {c : Ctx} {B : Nat} {G : Nat → Prop} {s : St} {a : Act} {w : World} {h : GH} {g : Gam} {C : Conds}
theorem RelG.look (hr : RelG c B G s a w h g) (hC : holds s (ixC c C)) {t : Nat} {k : TK} (hl : look g C t = k) (hk : k.isNo = false) :
    ∃ v, a.tmps[t]? = some v ∧ RelK c.P B s w h (fun p => a.tmps[p]?) t v k ∧ (g.at t).2 = k := by
  obtain ⟨h1, h2⟩ := look_some hl hk
  obtain ⟨v, hv, hrel⟩ := hr.at_ t (holds_in h2 hC) (by rw [h1]; exact hk)
  exact ⟨v, hv, by rw [h1] at hrel; exact hrel, h1⟩

theorem cellV_rd {v : Value} {x : V} (hv : cellV v = some x) (w : World) (G : Nat → Prop) : Rd w G x v := by
  unfold cellV at hv
  split at hv <;> first
    | (simp only [Option.some.injEq] at hv; subst hv; first | exact .int _ _ | exact .bool _ | exact .str _ | exact .nil _ _ (Nat.zero_le _) | exact .nomp)
    | (split at hv <;> first
        | (rename_i hs
           simp only [Option.some.injEq] at hv; subst hv
           rw [Array.eq_empty_of_size_eq_zero hs.1, Array.eq_empty_of_size_eq_zero hs.2]; exact .fn _)
        | simp at hv)
    | simp at hv
theorem cellV_one {v : Value} {x : V} (hv : cellV v = some x) : x.one = true := by
  unfold cellV at hv
  split at hv <;> first
    | (simp only [Option.some.injEq] at hv; subst hv; rfl)
    | (split at hv <;> first | (simp only [Option.some.injEq] at hv; subst hv; rfl) | simp at hv)
    | simp at hv

/-- a list of the call's own reads as its elements -/
theorem OwnV.rd {P : Program} {o : Option Nat} {ty : TypeId} {x : V} {v : Value} (hv : OwnV P B w h o ty x v) {G' : Nat → Prop} (hF : ∀ b, h.F b → G' b) (ho : ∀ b, o = some b → G' b) : Rd w G' x v := by
  rcases hv with ⟨l, xs, rfl, h0, hfit, hown, hb, hrd⟩ | ⟨id, ks, xs, b, es, clk, rfl, rfl, rfl, _, hid, hh, hk1, hx1, hk2, hx2⟩
  case inr => exact .mp id ks xs b clk es hid (ho b rfl) hh hk1 hx1 (fun i c hi => (hk2 i c hi).mono hF) fun i c hi => (hx2 i c hi).mono hF
  obtain ⟨hlen, hc⟩ := hown
  rcases hc with ⟨rfl, hn⟩ | ⟨b, cap, cur, rfl, _, hh, hle, hcap, hsz, htk⟩
  · have : l = [] := List.eq_nil_of_length_eq_zero hn
    subst this
    exact .nil _ _ (Nat.zero_le _)
  · simp only [Value.ownBlock] at hb
    refine .sl l b 0 cap (P.cellsOf ty) (fun i => cur.getD i undef) hle hcap (ho b hb.symm) hfit (fun i hi => ?_) fun i c hi => ?_
    · rw [Nat.zero_add, cell_of_row w b i cur ty (0, 0) hh]
      have : i < cur.size := by rw [hsz]; exact Nat.lt_of_lt_of_le hi (Nat.mul_le_mul_right _ hle)
      simp [Array.getD_eq_getD_getElem?, this]
    · obtain ⟨u, hu, hr⟩ := hrd i c hi
      have hu' : cur.getD i undef = u := by
        rw [← htk, List.getElem?_take] at hu
        split at hu
        · simp only [Array.getD_eq_getD_getElem?]
          have : cur[i]? = some u := by simpa using hu
          rw [this]; rfl
        · simp at hu
      rw [hu']
      exact hr.mono hF

theorem RelC.cell {P : Program} {o : Option Nat} {k : CK} {e : E} {v : Value} (hr : RelC P B s w h o k e v) : v.oneCell' = true := by
  cases k with
  | fz => obtain ⟨x, _, h1, h2⟩ := hr; rw [h2.one_eq, h1]
  | own ty =>
    obtain ⟨x, _, ⟨l, xs, _, _, _, ⟨_, hc⟩, _⟩ | ⟨_, _, _, _, _, _, _, rfl, _⟩⟩ := hr
    · rcases hc with ⟨rfl, _⟩ | ⟨_, _, _, rfl, _⟩ <;> rfl
    · rfl
  | nil => obtain ⟨rfl, _⟩ := hr; rfl
  | dead => exact hr

/-- a cell that is not dead has its value, read with what its own lists have -/
theorem RelC.rd {P : Program} {o : Option Nat} {k : CK} {e : E} {v : Value} (hr : RelC P B s w h o k e v) (hd : k ≠ .dead) {G' : Nat → Prop} (hF : ∀ b, h.F b → G' b) (ho : ∀ ty, k = .own ty → ∀ b, o = some b → G' b) :
    ∃ x, eval s e = some x ∧ x.one = true ∧ Rd w G' x v := by
  cases k with
  | fz => obtain ⟨x, h0, h1, h2⟩ := hr; exact ⟨x, h0, h1, h2.mono hF⟩
  | own ty =>
    obtain ⟨x, h0, hv⟩ := hr
    refine ⟨x, h0, ?_, hv.rd hF (ho ty rfl)⟩
    rcases hv with ⟨l, xs, rfl, _⟩ | ⟨_, _, _, _, _, _, rfl, _⟩ <;> rfl
  | nil => obtain ⟨rfl, h0⟩ := hr; exact ⟨_, h0, rfl, .nil _ _ (Nat.zero_le _)⟩
  | dead => exact absurd rfl hd

theorem evals_map {l : List E} {xs : List V} (h : evals s l = some xs) : xs.length = l.length ∧ ∀ (i : Nat) (e : E), l[i]? = some e → ∃ x, xs[i]? = some x ∧ eval s e = some x := by
  induction l generalizing xs with
  | nil => simp only [evals, Option.some.injEq] at h; subst h; exact ⟨rfl, fun i e hi => by simp at hi⟩
  | cons e l ih =>
    simp only [evals, Option.bind_eq_some_iff, Option.map_eq_some_iff] at h
    obtain ⟨x, hx, ys, hys, rfl⟩ := h
    obtain ⟨h1, h2⟩ := ih hys
    refine ⟨by simp [h1], fun i e' hi => ?_⟩
    cases i with
    | zero => simp at hi; subst hi; exact ⟨x, by simp, hx⟩
    | succ i => simp at hi; obtain ⟨y, hy, hy'⟩ := h2 i e' hi; exact ⟨y, by simpa using hy, hy'⟩
theorem evals_some {l : List E} (h : ∀ e ∈ l, ∃ x, eval s e = some x) : ∃ xs, evals s l = some xs := by
  induction l with
  | nil => exact ⟨[], rfl⟩
  | cons e l ih =>
    obtain ⟨x, hx⟩ := h e (by simp)
    obtain ⟨xs, hxs⟩ := ih fun e' he' => h e' (by simp [he'])
    exact ⟨x :: xs, by simp [evals, hx, hxs]⟩
theorem flat_one {l : List V} (h : ∀ x ∈ l, x.one = true) : flat l = l := by
  induction l with
  | nil => rfl
  | cons x l ih =>
    rw [flat_cons, ih fun y hy => h y (by simp [hy])]
    have hx := h x (by simp)
    cases x <;> first | rfl | simp [V.one] at hx

theorem RelCs.rd {P : Program} {t : Nat} {cs : List (CK × E)} {vs : Array Value} (hr : RelCs P B s w h t cs vs) (hd : anyDead cs = false) {G' : Nat → Prop} (hF : ∀ b, h.F b → G' b) (ho : anyOwn cs = true → ∀ i b, h.bl t (i + 1) = some b → G' b) :
    ∃ x, eval s (.ag (cs.map (·.2))) = some (.agg x) ∧ x.length = cs.length ∧ Rd w G' (.agg x) (.agg vs) := by
  obtain ⟨hsz, hc⟩ := hr
  have key : ∀ i k e, cs[i]? = some (k, e) → ∃ x, eval s e = some x ∧ x.one = true ∧ Rd w G' x (vs.getD i undef) := by
    intro i k e hi
    have hmem := List.mem_of_getElem? hi
    refine (hc i (k, e) hi).rd ?_ hF ?_
    · intro hk
      simp only at hk
      have : anyDead cs = true := by
        simp only [anyDead, List.any_eq_true]
        exact ⟨(k, e), hmem, by simp [hk]⟩
      rw [hd] at this; cases this
    · intro ty hk b hb
      simp only at hk
      exact ho (by simp only [anyOwn, List.any_eq_true]; exact ⟨(k, e), hmem, by simp [hk]⟩) _ _ hb
  obtain ⟨xs, hxs⟩ := evals_some (s := s) (l := cs.map (·.2)) (by
    intro e he
    simp only [List.mem_map] at he
    obtain ⟨⟨k, e'⟩, hm, rfl⟩ := he
    obtain ⟨i, hi⟩ := List.getElem?_of_mem hm
    obtain ⟨x, hx, _⟩ := key i k e' hi
    exact ⟨x, hx⟩)
  obtain ⟨hl, hx⟩ := evals_map hxs
  have hl' : xs.length = cs.length := by simpa using hl
  have hall : ∀ i x, xs[i]? = some x → x.one = true ∧ Rd w G' x (vs.getD i undef) := by
    intro i x hi
    have hlt : i < cs.length := by
      have := (List.getElem?_eq_some_iff.1 hi).1; omega
    obtain ⟨y, hy, h1, h2⟩ := key i cs[i].1 cs[i].2 (by simp [hlt])
    obtain ⟨z, hz, hz'⟩ := hx i (cs[i].2) (by simp [hlt])
    rw [hi] at hz; cases hz
    rw [hy] at hz'; cases hz'
    exact ⟨h1, h2⟩
  have hone : ∀ x ∈ xs, x.one = true := fun x hxm => by
    obtain ⟨i, hi⟩ := List.getElem?_of_mem hxm
    exact (hall i x hi).1
  refine ⟨xs, ?_, hl', .agg xs vs (by rw [hsz, hl']) hone fun i x hi => (hall i x hi).2⟩
  simp [eval, hxs, agV, flat_one hone]

theorem RelG.ownOf (hr : RelG c B G s a w h g) {p : Nat} {ty : TypeId} {e : E} (hp : ownOf g p = some (ty, e)) :
    ∃ v, a.tmps[p]? = some v ∧ ∃ x, eval s e = some x ∧ OwnV c.P B w h (h.bl p 1) ty x v := by
  unfold Vm.ownOf at hp
  split at hp
  · rename_i ty' e' hat
    simp only [Option.some.injEq, Prod.mk.injEq] at hp
    obtain ⟨rfl, rfl⟩ := hp
    obtain ⟨v, hv, hrel⟩ := hr.at_ p (by rw [hat]; exact holds_nil s) (by rw [hat]; rfl)
    rw [hat] at hrel
    exact ⟨v, hv, hrel⟩
  · simp at hp
theorem RelG.memOf (hr : RelG c B G s a w h g) {p : Nat} {cs : List (CK × E)} (hp : memOf g p = some cs) :
    ∃ b vs T, h.bl p 0 = some b ∧ a.tmps[p]? = some (.pointer (some ⟨b, 0, none⟩)) ∧ w.heap[b]? = some (.cells vs T (0, 0)) ∧ RelCs c.P B s w h p cs vs := by
  unfold Vm.memOf at hp
  split at hp
  · rename_i cs' hat
    simp only [Option.some.injEq] at hp
    subst hp
    obtain ⟨v, hv, hrel⟩ := hr.at_ p (by rw [hat]; exact holds_nil s) (by rw [hat]; rfl)
    rw [hat] at hrel
    obtain ⟨b, vs, T, h1, rfl, h2, h3⟩ := hrel
    exact ⟨b, vs, T, h1, hv, h2, h3⟩
  · simp at hp

/-- where the list of the call's own stands that a kind leads to -/
def placeI : TK → Nat × Nat
  | .ref p => (p, 1)
  | .refm p i => (p, i + 1)
  | _ => (0, 0)
theorem RelG.ownAt (hr : RelG c B G s a w h g) {k : TK} {ty : TypeId} {e : E} (hp : ownAt g k = some (ty, e)) {t : Nat} {v : Value} (hk : RelK c.P B s w h (fun p => a.tmps[p]?) t v k) :
    ∃ x, eval s e = some x ∧ OwnV c.P B w h (h.bl (placeI k).1 (placeI k).2) ty x v := by
  cases k with
  | ref p =>
    obtain ⟨u, hu, x, hx, ho⟩ := hr.ownOf hp
    have : u = v := by
      have h1 : a.tmps[p]? = some v := hk
      rw [hu] at h1; cases h1; rfl
    subst this
    exact ⟨x, hx, ho⟩
  | refm p i =>
    simp only [Vm.ownAt, Option.bind_eq_some_iff] at hp
    obtain ⟨cs, hm, hp⟩ := hp
    obtain ⟨b, vs, T, hb, _, hh, hsz, hcs⟩ := hr.memOf hm
    obtain ⟨b', hb', hcell⟩ := hk
    rw [hb] at hb'; cases hb'
    rw [cell_of_row w b i vs T (0, 0) hh] at hcell
    have hget : vs.getD i undef = v := by simp [Array.getD_eq_getD_getElem?, hcell]
    split at hp
    · rename_i ty' e' hci
      simp only [Option.some.injEq, Prod.mk.injEq] at hp; obtain ⟨rfl, rfl⟩ := hp
      have := hcs i _ hci
      rw [hget] at this
      exact this
    · simp at hp
  | _ => simp [Vm.ownAt] at hp
/-- the place itself holds such a value -/
theorem RelG.place (hr : RelG c B G s a w h g) {p : Nat} {i : Option Nat} {ty : TypeId} {e : E} (hp : Vm.ownAt g (placeK p i) = some (ty, e)) :
    ∃ v x, RelK c.P B s w h (fun p => a.tmps[p]?) 0 v (placeK p i) ∧ eval s e = some x ∧ OwnV c.P B w h (h.bl p (plI i)) ty x v := by
  cases i with
  | none =>
    obtain ⟨u, hu, x, hx, ho⟩ := hr.ownOf hp
    exact ⟨u, x, hu, hx, ho⟩
  | some i =>
    have hp0 := hp
    simp only [placeK, Vm.ownAt, Option.bind_eq_some_iff] at hp
    obtain ⟨cs, hm, hp⟩ := hp
    obtain ⟨b, vs, T, hb, _, hh, hsz, hcs⟩ := hr.memOf hm
    split at hp
    · rename_i ty' e' hci
      have hlt : i < vs.size := by rw [hsz]; exact (List.getElem?_eq_some_iff.1 hci).1
      have hrel : RelK c.P B s w h (fun p => a.tmps[p]?) 0 (vs.getD i undef) (placeK p (some i)) :=
        ⟨b, hb, by rw [cell_of_row w b i vs T (0, 0) hh]; simp [Array.getD_eq_getD_getElem?, hlt]⟩
      obtain ⟨x, hx, ho⟩ := hr.ownAt hp0 hrel
      exact ⟨_, x, hrel, hx, ho⟩
    · simp at hp

/-- an operand's value reads as its expression's -/
theorem asE_rd (hr : RelG c B G s a w h g) {k : TK} {t : Nat} {v : Value} (hv : a.tmps[t]? = some v) (hk : RelK c.P B s w h (fun p => a.tmps[p]?) t v k) {e : E} {sh : List Nat} (he : asE g k t = some (e, sh)) :
    ∃ x, eval s e = some x ∧ Rd w (h.ext sh) x v := by
  cases k with
  | val e' sh' => simp only [asE, Option.some.injEq, Prod.mk.injEq] at he; obtain ⟨rfl, rfl⟩ := he; exact hk
  | own ty e' =>
    simp only [asE, Option.some.injEq, Prod.mk.injEq] at he; obtain ⟨rfl, rfl⟩ := he
    obtain ⟨x, hx, ho⟩ := hk
    exact ⟨x, hx, ho.rd (fun b hb => GH.ext_F hb) fun b hb => .inr ⟨t, by simp, 0, hb⟩⟩
  | nil =>
    simp only [asE, Option.some.injEq, Prod.mk.injEq] at he; obtain ⟨rfl, rfl⟩ := he
    have : v = .slice none 0 0 := hk
    subst this
    exact ⟨.sl [], rfl, .nil _ _ (Nat.zero_le _)⟩
  | ags cs =>
    simp only [asE] at he
    split at he
    · simp at he
    · rename_i hd
      simp only [Option.some.injEq, Prod.mk.injEq] at he
      obtain ⟨rfl, rfl⟩ := he
      obtain ⟨vs, rfl, hcs⟩ := hk
      obtain ⟨x, hx, _, hrd⟩ := hcs.rd (G' := h.ext (if anyOwn cs = true then [t] else [])) (by simpa using hd) (fun b hb => GH.ext_F hb) (fun ho i b hb => by rw [if_pos ho]; exact .inr ⟨t, by simp, i, hb⟩)
      exact ⟨_, hx, hrd⟩
  | ref p =>
    simp only [asE, ownAt, Option.map_eq_some_iff] at he
    obtain ⟨⟨ty, e'⟩, hp, he⟩ := he
    simp only [Prod.mk.injEq] at he; obtain ⟨rfl, rfl⟩ := he
    obtain ⟨u, hu, x, hx, ho⟩ := hr.ownOf hp
    have : u = v := by
      have h1 : a.tmps[p]? = some v := hk
      rw [hu] at h1; cases h1; rfl
    subst this
    exact ⟨x, hx, ho.rd (fun b hb => GH.ext_F hb) fun b hb => .inr ⟨p, by simp, 0, hb⟩⟩
  | refm p i =>
    simp only [asE, Option.map_eq_some_iff] at he
    obtain ⟨⟨ty, e'⟩, hp, he⟩ := he
    simp only [Prod.mk.injEq] at he; obtain ⟨rfl, rfl⟩ := he
    obtain ⟨x, hx, ho⟩ := hr.ownAt hp (show RelK c.P B s w h (fun p => a.tmps[p]?) t v (.refm p i) from hk)
    exact ⟨x, hx, ho.rd (fun b hb => GH.ext_F hb) fun b hb => .inr ⟨p, by simp, i, hb⟩⟩
  | no => simp [asE] at he
  | mem cs => simp [asE] at he
  | pm p o => simp [asE] at he
  | pc e' o sh' => simp [asE] at he
  | pe p i j o k => simp [asE] at he
  | pa p o j n k => simp [asE] at he
  | clo f caps => simp [asE] at he
end
end Vm
