/-
  Calls: contracts on values; calls that write what they are handed.
-/
import Derived.Test.YtbmgnmjghhakhaaVp
namespace Vm
open Go
open Go.RowKit (Below)
set_option linter.unusedSimpArgs false
set_option linter.unusedVariables false

def callable (P : Program) (f : FuncId) : Bool :=
  match P.funcs[f]? with
  | some fn => !(fn.name == "runtime.NumGoroutine") && fn.body.isSome
  | none => false
/-- the function f, called with values that read as args, returns one that reads as r, and turns nothing that was there -/
def VC (P : Program) (f : FuncId) (fr : Bool) (args : List V) (r : V) : Prop :=
  callable P f = true ∧ ∀ (w : World) (G : Nat → Prop) (vs : Array Value), (∀ b, G b → b < w.heap.size) → vs.size = args.length → (∀ (i : Nat) (x : V), args[i]? = some x → Rd w G x (vs.getD i undef)) →
    Calls P f vs w fun e w' => ∃ v, e = .returned v ∧ Below w.heap.size w w' ∧ Rd w' (fun b => (fr = false ∧ G b) ∨ (w.heap.size ≤ b ∧ b < w'.heap.size)) r v

/-- how what is handed on stands to its value -/
def argK (k : OT) (x : V) : Option TK :=
  match k, x with
  | .fz, x => some (.val (.c x) [])
  | .own ty, x => some (.own ty (.c x))
  | .mem l, .agg cs => if cs.length = l.length then some (.mem ((l.zip cs).map fun y => (y.1, .c y.2))) else none
  | _, _ => none
def RelA (P : Program) (B : Nat) (w : World) (h : GH) (ks : List OT) (xs : List V) (vs : Array Value) : Prop :=
  xs.length = ks.length ∧ vs.size = ks.length ∧ ∀ (i : Nat) (k : OT) (x : V), ks[i]? = some k → xs[i]? = some x → ∃ tk, argK k x = some tk ∧ RelK P B [] w h (fun _ => none) i (vs.getD i undef) tk
/-- behind the call: what may be written alone -/
def RelB (P : Program) (B : Nat) (w : World) (h : GH) (ks : List OT) (ys : List V) (vs : Array Value) : Prop :=
  ys.length = ks.length ∧ ∀ (i : Nat) (k : OT) (y : V), ks[i]? = some k → k ≠ .fz → ys[i]? = some y → ∃ tk, argK k y = some tk ∧ RelK P B [] w h (fun _ => none) i (vs.getD i undef) tk
def outsV : List OT → List V → List V
  | .fz :: ks, _ :: ys => outsV ks ys
  | _ :: ks, y :: ys => y :: outsV ks ys
  | _, _ => []
def packV (r : V) (os : List V) : V :=
  match os with
  | [] => r
  | os => .tup (r :: os)
/-- the function f, called with values that read as xs, of which those of ks may be written: what it returns, and what they are then -/
def VCM (P : Program) (f : FuncId) (ks : List OT) (xs : List V) (R : V) : Prop :=
  callable P f = true ∧ ∀ (B : Nat) (w : World) (h : GH) (vs : Array Value), Ok B h.F w h → RelA P B w h ks xs vs →
    Calls P f vs w fun e w' => ∃ v r ys h', e = .returned v ∧ Below B w w' ∧ Same h.K w w' ∧ Ok B h.F w' h' ∧ h'.K = h.K ∧ Rd w' h'.F r v ∧ RelB P B w' h' ks ys vs ∧ R = packV r (outsV ks ys)
def fnOf (s : St) : FN → Option FuncId
  | .id f => some f
  | .e x => match eval s x with
    | some (.fn f) => some f
    | _ => none
/-- what may be written, as it is when nothing is called -/
def oldV (s : St) : List OT → List E → Option (List V)
  | .fz :: ks, _ :: es => oldV s ks es
  | _ :: ks, e :: es => (eval s e).bind fun x => (oldV s ks es).map (x :: ·)
  | _, _ => some []
/-- what an effect tells of the state -/
def EFok (P : Program) (s : St) : EF → Prop
  | .lt i C e => holds s C → ∃ x, eval s e = some x ∧ get s i = .v x
  | .call i C f fr fl as => holds s C → ∃ xs r, evals s as = some xs ∧ VC P f fr xs r ∧ (fl = true → flV r = some r) ∧ get s i = .v r
  | .callm i C f ks as => (holds s C → ∃ xs n R, evals s as = some xs ∧ fnOf s f = some n ∧ VCM P n ks xs R ∧ get s i = .v R) ∧
      (¬ holds s C → ∃ os, oldV s ks as = some os ∧ (os ≠ [] → get s i = .v (.tup (.bool false :: os))))

section
variable {c : Ctx} {B : Nat} {G : Nat → Prop} {s : St} {a a' : Act} {w w' : World} {h h' : GH} {g : Gam} {C : Conds} {fz ps rb : List Nat} {ops : Array Oper}

def slotIx : List (E × Option Nat) → Nat → Option Nat
  | [], _ => none
  | x :: l, u => if x.2 = some u then some 0 else (slotIx l u).map (· + 1)
theorem slotIx_some : ∀ {l : List (E × Option Nat)} {u i : Nat}, slotIx l u = some i → ∃ e, l[i]? = some (e, some u)
  | [], u, i, hi => by cases hi
  | (e, o) :: l, u, i, hi => by
    simp only [slotIx] at hi
    split at hi
    · rename_i ho
      have ho : o = some u := ho
      simp only [Option.some.injEq] at hi
      subst hi ho
      exact ⟨e, rfl⟩
    · simp only [Option.map_eq_some_iff] at hi
      obtain ⟨j, hj, rfl⟩ := hi
      obtain ⟨e', he⟩ := slotIx_some hj
      exact ⟨e', by simpa using he⟩
theorem slotIx_none : ∀ {l : List (E × Option Nat)} {u : Nat}, slotIx l u = none → u ∉ l.filterMap (·.2)
  | [], u, _, hm => by simp at hm
  | (e, o) :: l, u, hi, hm => by
    simp only [slotIx] at hi
    split at hi
    · cases hi
    · rename_i ho
      have ho : ¬ o = some u := ho
      simp only [Option.map_eq_none_iff] at hi
      have := slotIx_none hi
      cases o with
      | none => exact this (by simpa using hm)
      | some p =>
        simp only [List.filterMap_cons, List.mem_cons] at hm
        rcases hm with rfl | hm
        · exact ho rfl
        · exact this hm
theorem slot_mem {l : List (E × Option Nat)} {e : E} {u i : Nat} (hi : l[i]? = some (e, some u)) : u ∈ l.filterMap (·.2) :=
  List.mem_filterMap.2 ⟨_, List.mem_of_getElem? hi, rfl⟩
theorem nodupB_iff : ∀ {l : List Nat}, nodupB l = true ↔ l.Nodup
  | [] => by simp [nodupB]
  | x :: l => by
    simp only [nodupB, Bool.and_eq_true, Bool.not_eq_true', List.contains_eq_mem, decide_eq_false_iff_not, List.nodup_cons, nodupB_iff (l := l)]
theorem slot_inj : ∀ {l : List (E × Option Nat)} {e e' : E} {u i j : Nat}, (l.filterMap (·.2)).Nodup → l[i]? = some (e, some u) → l[j]? = some (e', some u) → i = j
  | [], e, e', u, i, j, _, hi, _ => by simp at hi
  | (e0, o) :: l, e, e', u, i, j, hn, hi, hj => by
    have hn' : (l.filterMap (·.2)).Nodup := by
      cases o with
      | none => simpa using hn
      | some p => simp only [List.filterMap_cons, List.nodup_cons] at hn; exact hn.2
    cases i with
    | zero =>
      simp at hi
      cases j with
      | zero => rfl
      | succ j =>
        exfalso
        have h1 := slot_mem (l := l) (i := j) (by simpa using hj)
        rw [hi.2] at hn
        simp only [List.filterMap_cons, List.nodup_cons] at hn
        exact hn.1 h1
    | succ i =>
      cases j with
      | zero =>
        exfalso
        simp at hj
        have h1 := slot_mem (l := l) (i := i) (by simpa using hi)
        rw [hj.2] at hn
        simp only [List.filterMap_cons, List.nodup_cons] at hn
        exact hn.1 h1
      | succ j =>
        have := slot_inj (i := i) (j := j) hn' (by simpa using hi) (by simpa using hj)
        rw [this]
theorem slotIx_of {l : List (E × Option Nat)} (hn : (l.filterMap (·.2)).Nodup) {e : E} {u i : Nat} (hi : l[i]? = some (e, some u)) : slotIx l u = some i := by
  cases hx : slotIx l u with
  | none => exact absurd (slot_mem hi) (slotIx_none hx)
  | some j =>
    obtain ⟨e', hj⟩ := slotIx_some hx
    rw [slot_inj hn hi hj]

/-- the blocks that are handed on -/
def callBl (g : Gam) (h : GH) (ks : List OT) (as : List (E × Option Nat)) (i j : Nat) : Option Nat :=
  match (as[i]?).bind (·.2), ks[i]? with
  | some p, some (.mem _) => match j with
    | 0 => h.bl p 0
    | j + 1 => match (memOf g p).bind fun cs => cs[j]? with
      | some (.own _, _) => h.bl p (j + 1)
      | _ => none
  | some p, some (.own _) => if j = 1 then h.bl p 1 else none
  | _, _ => none
theorem callBl_some {ks : List OT} {as : List (E × Option Nat)} {i j b : Nat} (hb : callBl g h ks as i j = some b) : ∃ p e k, as[i]? = some (e, some p) ∧ ks[i]? = some k ∧ k ≠ .fz ∧ h.bl p j = some b ∧ (∀ ty, k = .own ty → j = 1) := by
  unfold callBl at hb
  split at hb
  · rename_i p l hp hk
    simp only [Option.bind_eq_some_iff] at hp
    obtain ⟨⟨e, o⟩, he, ho⟩ := hp
    have ho : o = some p := ho
    subst ho
    refine ⟨p, e, _, he, hk, by simp, ?_, by simp⟩
    split at hb
    · exact hb
    · split at hb
      · exact hb
      · cases hb
  · rename_i p l hp hk
    simp only [Option.bind_eq_some_iff] at hp
    obtain ⟨⟨e, o⟩, he, ho⟩ := hp
    have ho : o = some p := ho
    subst ho
    split at hb
    · rename_i hj; subst hj
      exact ⟨p, e, _, he, hk, by simp, hb, fun _ _ => rfl⟩
    · cases hb
  · cases hb
def callGH (g : Gam) (h : GH) (w : World) (ks : List OT) (as : List (E × Option Nat)) : GH :=
  { F := h.F, bl := callBl g h ks as, K := fun b => b < w.heap.size ∧ ∀ i j, callBl g h ks as i j ≠ some b }
theorem callGH_ok (hok : Ok B G w h) {ks : List OT} {as : List (E × Option Nat)} (hn : (as.filterMap (·.2)).Nodup) : Ok B h.F w (callGH g h w ks as) := by
  refine ⟨hok.base, hok.f_lt, fun b hb => .inl hb, fun b hb => hb, fun t i b hb => ?_, fun t i u j b hb hb' => ?_, fun b hb => hb.1, fun t i b hb hK => hK.2 t i hb, fun b hb => .inl hb⟩
  · obtain ⟨p, _, _, _, _, _, h1, _⟩ := callBl_some hb
    exact hok.b_lt p i b h1
  · obtain ⟨p, e, _, h1, _, _, h2, _⟩ := callBl_some hb
    obtain ⟨q, e', _, h3, _, _, h4, _⟩ := callBl_some hb'
    obtain ⟨rfl, rfl⟩ := hok.inj p i q j b h2 h4
    exact ⟨slot_inj hn h1 h3, rfl⟩

/-- the value of what is handed on -/
def apV (a : Act) (h : GH) (x : AP) (v : Value) : Prop :=
  match x with
  | .op x _ => v = a.eval x
  | .cap p => ∃ b, h.bl p 0 = some b ∧ v = .pointer (some ⟨b, 0, none⟩)

theorem okPass_get : ∀ {a b : List CK}, okPass c.P a b = true → a.length = b.length ∧ ∀ (i : Nat) (x y : CK), a[i]? = some x → b[i]? = some y → x = y ∨ x = .nil ∧ ∃ ty, y = .own ty ∧ 0 < c.P.cellsOf ty
  | [], [], _ => ⟨rfl, fun i x y hx => by simp at hx⟩
  | [], _ :: _, h => by simp [okPass] at h
  | _ :: _, [], h => by simp [okPass] at h
  | x :: a, y :: b, h => by
    simp only [okPass, Bool.and_eq_true, Bool.or_eq_true, beq_iff_eq] at h
    obtain ⟨h1, h2⟩ := h
    obtain ⟨h3, h4⟩ := okPass_get h2
    refine ⟨by simp [h3], fun i x' y' hx hy => ?_⟩
    cases i with
    | zero =>
      simp at hx hy
      subst hx hy
      rcases h1 with h1 | h1
      · exact .inl h1
      · split at h1
        · simp only [decide_eq_true_eq] at h1
          exact .inr ⟨rfl, _, rfl, h1⟩
        · cases h1
    | succ i => exact h4 i x' y' (by simpa using hx) (by simpa using hy)
theorem RelC.const {P : Program} {o : Option Nat} {k : CK} {e : E} {v : Value} {x : V} (hr : RelC P B s w h o k e v) (hx : eval s e = some x) {h2 : GH} (hF : h2.F = h.F) : RelC P B [] w h2 o k (.c x) v := by
  cases k with
  | fz => obtain ⟨y, h0, h1, h3⟩ := hr; rw [hx] at h0; cases h0; exact ⟨x, rfl, h1, h3.mono fun b hb => by rw [hF]; exact hb⟩
  | own ty => obtain ⟨y, h0, h1⟩ := hr; rw [hx] at h0; cases h0; exact ⟨x, rfl, h1.mono (fun b hb => by rw [hF]; exact hb) rfl⟩
  | nil => obtain ⟨h0, h1⟩ := hr; rw [hx] at h1; cases h1; exact ⟨h0, rfl⟩
  | dead => exact hr
theorem slotP_rel (hr : RelG c B G s a w h g) (hC : holds s (ixC c C)) {x : AP} {p : Nat} {v : Value} (hs : slotP g C x = some p) (hv : apV a h x v) : ∃ b, h.bl p 0 = some b ∧ v = .pointer (some ⟨b, 0, none⟩) := by
  unfold slotP at hs
  split at hs
  · simp only [Option.some.injEq] at hs; subst hs; exact hv
  · rename_i t ty
    have hv : v = a.eval (.tmp t) := hv
    subst hv
    split at hs
    · rename_i cs hk
      simp only [Option.some.injEq] at hs
      subst hs
      obtain ⟨v, hv, ⟨b, vs, T, h1, h2, _⟩, _⟩ := hr.look hC (show look g C t = _ from hk) rfl
      rw [Act.eval_tmp a t v hv]
      exact ⟨b, h1, h2⟩
    · rename_i q hk
      simp only [Option.some.injEq] at hs
      subst hs
      exact opK_rel hr hC hk rfl 0
    · cases hs
  · cases hs
/-- what may be written, as the callee asks it -/
theorem pass_out (hr : RelG c B G s a w h g) {k : OT} {x : AP} {e : E} {p : Nat} (hp : passOne c g C k x = some (e, some p)) {X : V} (hX : eval s e = some X) {ks : List OT} {as : List (E × Option Nat)} {i : Nat} (hk : ks[i]? = some k) (hi : as[i]? = some (e, some p)) :
    ∃ v, a.tmps[p]? = some v ∧ (∃ tk, argK k X = some tk ∧ RelK c.P B [] w (callGH g h w ks as) (fun _ => none) i v tk) ∧ ((∃ l b, k = .mem l ∧ h.bl p 0 = some b ∧ v = .pointer (some ⟨b, 0, none⟩)) ∨ ∃ ty, k = .own ty) := by
  unfold passOne at hp
  split at hp
  · split at hp
    · simp only [Option.bind_eq_some_iff] at hp
      obtain ⟨_, _, hp⟩ := hp
      split at hp
      · simp at hp
      · cases hp
    · cases hp
  · -- a variable
    rename_i l
    simp only [Option.bind_eq_some_iff] at hp
    obtain ⟨p, hs, cs, hmem, hp⟩ := hp
    split at hp
    · rename_i hcond
      simp only [Bool.and_eq_true, Bool.not_eq_true'] at hcond
      obtain ⟨hdead, hpass⟩ := hcond
      simp only [Option.some.injEq, Prod.mk.injEq] at hp
      obtain ⟨rfl, rfl⟩ := hp
      obtain ⟨b, vs, T, h1, h2, h3, h4⟩ := hr.memOf hmem
      obtain ⟨hlen, hget⟩ := okPass_get hpass
      simp only [List.length_map] at hlen
      have hX0 := hX
      simp only [eval, Option.map_eq_some_iff] at hX0
      obtain ⟨xs, hxs, hag⟩ := hX0
      obtain ⟨hxl, hxat⟩ := evals_map hxs
      have hxl' : xs.length = cs.length := by simpa using hxl
      have hone : ∀ x ∈ xs, x.one = true := fun x hx => by
        obtain ⟨j, hj⟩ := List.getElem?_of_mem hx
        have hlt : j < cs.length := by have := (List.getElem?_eq_some_iff.1 hj).1; omega
        obtain ⟨x', hx1, hx2⟩ := hxat j (cs[j]).2 (by rw [List.getElem?_map, List.getElem?_eq_getElem hlt]; rfl)
        rw [hj] at hx1; cases hx1
        have hc := h4.2 j cs[j] (List.getElem?_eq_getElem hlt)
        obtain ⟨z, hz, hz1, _⟩ := hc.rd (G' := fun _ => True) (fun hd => by
          have : anyDead cs = true := List.any_eq_true.2 ⟨cs[j], List.getElem_mem hlt, by simp [hd]⟩
          rw [hdead] at this; cases this) (fun _ _ => trivial) fun _ _ _ _ => trivial
        rw [hx2] at hz; cases hz
        exact hz1
      have hXe : X = .agg xs := by rw [← hag]; simp only [agV, flat_one hone]
      subst hXe
      have hlx : xs.length = l.length := by omega
      have hbl0 : callBl g h ks as i 0 = h.bl p 0 := by simp [callBl, hi, hk]
      refine ⟨_, h2, ⟨.mem ((l.zip xs).map fun y => (y.1, .c y.2)), by simp only [argK, hlx, if_true], b, vs, T, by show callBl g h ks as i 0 = _; rw [hbl0]; exact h1, rfl, h3, by rw [h4.1]; simp; omega, fun j ck hj => ?_⟩, .inl ⟨l, b, rfl, h1, rfl⟩⟩
      simp only [List.getElem?_map, Option.map_eq_some_iff] at hj
      obtain ⟨⟨ck1, x1⟩, hj, rfl⟩ := hj
      rw [List.getElem?_zip_eq_some] at hj
      obtain ⟨hj1, hj2⟩ := hj
      have hlt : j < cs.length := by have := (List.getElem?_eq_some_iff.1 hj2).1; omega
      obtain ⟨x', hx1, hx2⟩ := hxat j (cs[j]).2 (by rw [List.getElem?_map, List.getElem?_eq_getElem hlt]; rfl)
      simp only at hj2 hj1
      rw [hj2] at hx1; cases hx1
      have hc := h4.2 j cs[j] (List.getElem?_eq_getElem hlt)
      have hcb : callBl g h ks as i (j + 1) = match cs[j] with | (.own _, _) => h.bl p (j + 1) | _ => none := by
        simp only [callBl, hi, hk, hmem, Option.bind_some, List.getElem?_eq_getElem hlt]
        rcases cs[j] with ⟨kk, e⟩
        cases kk <;> rfl
      rcases hget j (cs[j]).1 ck1 (by rw [List.getElem?_map, List.getElem?_eq_getElem hlt]; rfl) hj1 with he | ⟨he, ty, rfl, h0⟩
      · rw [← he]
        show RelC c.P B [] w (callGH g h w ks as) (callBl g h ks as i (j + 1)) (cs[j]).1 (.c x1) (vs.getD j undef)
        rw [hcb]
        have hcc := hc.const hx2 (h2 := callGH g h w ks as) rfl
        generalize cs[j] = q at hcc
        obtain ⟨kk, e⟩ := q
        cases kk with
        | own ty => exact hcc
        | fz => exact hcc
        | nil => exact hcc
        | dead => exact hcc
      · show RelC c.P B [] w (callGH g h w ks as) (callBl g h ks as i (j + 1)) (.own ty) (.c x1) (vs.getD j undef)
        rw [hcb]
        generalize cs[j] = q at he hc hx2
        obtain ⟨kk, e⟩ := q
        simp only at he
        subst he
        obtain ⟨e1, e2⟩ := hc
        simp only at hx2 e2
        rw [e2] at hx2; cases hx2
        rw [e1]
        exact ⟨_, rfl, .inl ⟨[], [], rfl, h0, fun x hx => by simp at hx, World.ownsRow_nil w B ty _, rfl, fun i ck hi => by simp [flat] at hi⟩⟩
    · cases hp
  · -- a list or a map
    rename_i ty
    simp only [Option.bind_eq_some_iff] at hp
    obtain ⟨p, hs, ⟨ty', e'⟩, ho, hp⟩ := hp
    split at hp
    · rename_i hty
      simp only at hty
      subst hty
      simp only [Option.some.injEq, Prod.mk.injEq] at hp
      obtain ⟨rfl, rfl⟩ := hp
      obtain ⟨u, hu, X', hX', hown⟩ := hr.ownOf ho
      rw [hX] at hX'; cases hX'
      have hcb : callBl g h ks as i 1 = h.bl p 1 := by simp [callBl, hi, hk]
      refine ⟨u, hu, ⟨_, rfl, X, rfl, ?_⟩, .inr ⟨_, rfl⟩⟩
      show OwnV c.P B w (callGH g h w ks as) (callBl g h ks as i 1) ty' X u
      rw [hcb]
      exact hown.mono (fun _ hb => hb) rfl
    · cases hp
  · cases hp
/-- what is handed on is as the callee asks -/
theorem pass_rel (hr : RelG c B G s a w h g) (hC : holds s (ixC c C)) {k : OT} {x : AP} {y : E × Option Nat} (hp : passOne c g C k x = some y) {X : V} (hX : eval s y.1 = some X) {v : Value} (hv : apV a h x v) {ks : List OT} {as : List (E × Option Nat)} {i : Nat} (hk : ks[i]? = some k) (hi : as[i]? = some y) :
    (∃ tk, argK k X = some tk ∧ RelK c.P B [] w (callGH g h w ks as) (fun _ => none) i v tk) ∧ ∀ p, y.2 = some p → a.tmps[p]? = some v := by
  obtain ⟨e, o⟩ := y
  cases o with
  | none =>
    refine ⟨?_, fun p hp => by cases hp⟩
    unfold passOne at hp
    split at hp
    · split at hp
      · rename_i x ty
        simp only [Option.bind_eq_some_iff] at hp
        obtain ⟨a0, ha0, hp⟩ := hp
        split at hp
        · rename_i hemp
          simp only [Option.some.injEq, Prod.mk.injEq, and_true] at hp
          subst hp
          obtain ⟨z, hz, hzr⟩ := opE_V hr hC ha0
          obtain ⟨z', hz', hzr'⟩ := flE_rd (fl := flatT c.P ty) (b := a0) hz hzr ⟨X, hX⟩
          simp only at hX
          rw [hX] at hz'; cases hz'
          have hv : v = a.eval x := hv
          subst hv
          rw [List.isEmpty_iff.1 hemp] at hzr'
          exact ⟨_, rfl, X, rfl, hzr'.F.mono fun b hb => GH.ext_F hb⟩
        · cases hp
      · cases hp
    · simp only [Option.bind_eq_some_iff] at hp
      obtain ⟨_, _, _, _, hp⟩ := hp
      split at hp
      · simp at hp
      · cases hp
    · simp only [Option.bind_eq_some_iff] at hp
      obtain ⟨_, _, _, _, hp⟩ := hp
      split at hp
      · simp at hp
      · cases hp
    · cases hp
  | some p =>
    obtain ⟨u, hu, hrel, hcase⟩ := pass_out hr hp hX hk hi
    have huv : u = v := by
      unfold passOne at hp
      split at hp
      · split at hp
        · simp only [Option.bind_eq_some_iff] at hp
          obtain ⟨_, _, hp⟩ := hp
          split at hp
          · simp at hp
          · cases hp
        · cases hp
      · simp only [Option.bind_eq_some_iff] at hp
        obtain ⟨p', hs, cs, hmem, hp⟩ := hp
        split at hp
        · simp only [Option.some.injEq, Prod.mk.injEq] at hp
          obtain ⟨_, rfl⟩ := hp
          obtain ⟨b, q1, rfl⟩ := slotP_rel hr hC hs hv
          rcases hcase with ⟨l, b', _, q2, rfl⟩ | ⟨ty, hk'⟩
          · rw [q1] at q2; cases q2; rfl
          · cases hk'
        · cases hp
      · simp only [Option.bind_eq_some_iff] at hp
        obtain ⟨p', hs, ⟨ty', e'⟩, ho, hp⟩ := hp
        split at hp
        · simp only [Option.some.injEq, Prod.mk.injEq] at hp
          obtain ⟨_, rfl⟩ := hp
          unfold slotO at hs
          split at hs
          · rename_i t tt
            have hv : v = a.eval (.tmp t) := hv
            subst hv
            split at hs
            · simp only [Option.some.injEq] at hs
              subst hs
              rw [Act.eval_tmp a _ u hu]
            · rename_i q hk2
              simp only [Option.some.injEq] at hs
              subst hs
              have hrel : a.tmps[q]? = some (a.eval (.tmp t)) := opK_rel hr hC hk2 rfl 0
              rw [hu] at hrel; simpa using hrel
            · cases hs
          · cases hs
        · cases hp
      · cases hp
    subst huv
    exact ⟨hrel, fun q hq => by cases hq; exact hu⟩
end
end Vm
