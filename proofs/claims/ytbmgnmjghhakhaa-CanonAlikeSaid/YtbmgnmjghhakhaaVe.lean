/-
  Operations that write nothing but their own temporary.
-/
import Derived.Test.YtbmgnmjghhakhaaVd
namespace Vm
open Go
open Go.RowKit (Below)
set_option linter.unusedSimpArgs false
set_option linter.unusedVariables false

def TK.owning : TK → Bool
  | .own .. | .mem _ | .ags _ => true
  | _ => false
/-- a step that turns, of what was there, the blocks of some slots alone ('ps'); those of 'rb' may have other variables; the lists of 'fz' are written no more -/
structure Step (B : Nat) (ps rb fz : List Nat) (w w' : World) (h h' : GH) : Prop where
  below : Below B w w'
  same : ∀ b, b < w.heap.size → (∀ p ∈ ps, ∀ i, h.bl p i ≠ some b) → w'.heap[b]? = w.heap[b]?
  F : ∀ b, h.F b → h'.F b
  bl : ∀ t, t ∉ ps → t ∉ fz → h'.bl t = h.bl t
  fz0 : ∀ t, t ∉ rb → h'.bl t 0 = h.bl t 0
  fzF : ∀ t i b, t ∉ ps → t ∈ fz → h.bl t (i + 1) = some b → h'.F b
  K : h'.K = h.K

section
variable {P : Program} {B : Nat} {G : Nat → Prop} {s : St} {w w' : World} {h h' : GH} {ps rb fz : List Nat}

theorem Step.F_same (hs : Step B ps rb fz w w' h h') (hok : Ok B G w h) {b : Nat} (hb : h.F b) : w'.heap[b]? = w.heap[b]? :=
  hs.same b (hok.f_lt b hb) fun p _ i hi => (hok.b_lt p i b hi).2.2 hb
theorem Step.bl_same (hs : Step B ps rb fz w w' h h') (hok : Ok B G w h) {t i b : Nat} (ht : t ∉ ps) (hb : h.bl t i = some b) : w'.heap[b]? = w.heap[b]? :=
  hs.same b (hok.b_lt t i b hb).2.1 fun p hp j hj => ht (by have := (hok.inj t i p j b hb hj).1; subst this; exact hp)
theorem Step.ext_same (hs : Step B ps rb fz w w' h h') (hok : Ok B G w h) {sh : List Nat} (hsh : ∀ p ∈ ps, p ∉ sh) : Same (h.ext sh) w w' := by
  intro b hb
  rcases hb with hb | ⟨p, hp, i, hi⟩
  · exact hs.F_same hok hb
  · exact hs.bl_same hok (fun hps => hsh p hps hp) hi
theorem Step.ext_mono (hs : Step B ps rb fz w w' h h') {sh : List Nat} (hsh : ∀ p ∈ ps, p ∉ sh) : ∀ b, h.ext sh b → h'.ext sh b := by
  intro b hb
  rcases hb with hb | ⟨p, hp, i, hi⟩
  · exact .inl (hs.F b hb)
  · have hps : p ∉ ps := fun hps => hsh p hps hp
    by_cases hfz : p ∈ fz
    · exact .inl (hs.fzF p i b hps hfz hi)
    · exact .inr ⟨p, hp, i, by rw [hs.bl p hps hfz]; exact hi⟩

theorem ownsRow_keep {e : TypeId} {k : Nat} {v : Value} {n : Nat} {xs : List Value} (hr : w.ownsRow B e k v n xs) (hb : ∀ b, v.ownBlock = some b → w'.heap[b]? = w.heap[b]?) : w'.ownsRow B e k v n xs := by
  refine ⟨hr.1, ?_⟩
  rcases hr.2 with hn | ⟨g, cap, cur, rfl, h1, h2, h3⟩
  · exact .inl hn
  · exact .inr ⟨g, cap, cur, rfl, h1, by rw [hb g rfl]; exact h2, h3⟩
theorem OwnV.keep {o : Option Nat} {ty : TypeId} {x : V} {v : Value} (hv : OwnV P B w h o ty x v) (hF : Same h.F w w') (hFF : ∀ b, h.F b → h'.F b) (ho : ∀ b, o = some b → w'.heap[b]? = w.heap[b]?) : OwnV P B w' h' o ty x v := by
  rcases hv with ⟨l, xs, rfl, h0, h1, h2, h3, h4⟩ | ⟨id, ks, xs, b, es, clk, rfl, rfl, rfl, h0, hid, h1, h2, h3, h4, h5⟩
  case inr => exact .inr ⟨id, ks, xs, b, es, clk, rfl, rfl, rfl, h0, hid, by rw [ho b rfl]; exact h1, h2, h3, fun i c hi => (h4 i c hi).keep hF hFF, fun i c hi => (h5 i c hi).keep hF hFF⟩
  refine .inl ⟨l, xs, rfl, h0, h1, ownsRow_keep h2 (fun b hb => ho b (by rw [← h3]; exact hb)), h3, fun i c hi => ?_⟩
  obtain ⟨u, hu, hr⟩ := h4 i c hi
  exact ⟨u, hu, hr.keep hF hFF⟩
theorem RelC.keep {o : Option Nat} {k : CK} {e : E} {v : Value} (hr : RelC P B s w h o k e v) (hF : Same h.F w w') (hFF : ∀ b, h.F b → h'.F b) (ho : ∀ b, o = some b → w'.heap[b]? = w.heap[b]?) : RelC P B s w' h' o k e v := by
  cases k with
  | fz => obtain ⟨x, h0, h1, h2⟩ := hr; exact ⟨x, h0, h1, h2.keep hF hFF⟩
  | own ty => obtain ⟨x, h0, h1⟩ := hr; exact ⟨x, h0, h1.keep hF hFF ho⟩
  | nil => exact hr
  | dead => exact hr
theorem RelCs.keep {t : Nat} {cs : List (CK × E)} {vs : Array Value} (hr : RelCs P B s w h t cs vs) (hF : Same h.F w w') (hFF : ∀ b, h.F b → h'.F b) (hbl : ∀ i, h'.bl t (i + 1) = h.bl t (i + 1)) (ho : ∀ i b, h.bl t (i + 1) = some b → w'.heap[b]? = w.heap[b]?) : RelCs P B s w' h' t cs vs :=
  ⟨hr.1, fun i ck hi => by rw [hbl]; exact (hr.2 i ck hi).keep hF hFF fun b hb => ho _ b hb⟩

theorem calm_spec {k : TK} (hc : calm ps rb fz k = true) : (∀ p ∈ ps, touches p k = false) ∧ (∀ p ∈ rb, leads p k = false) ∧ intoOne fz k = false := by
  simp only [calm, Bool.and_eq_true, Bool.not_eq_true', List.any_eq_false, Bool.not_eq_true] at hc
  exact ⟨hc.1.1, hc.1.2, hc.2⟩

/-- what does not speak of the slots that are turned stays -/
theorem RelK.keep {tm tm' : Nat → Option Value} {t : Nat} {v : Value} {k : TK} (hk : RelK P B s w h tm t v k) (hs : Step B ps rb fz w w' h h') (hok : Ok B G w h) (hrb : ∀ t ∈ rb, t ∈ ps)
    (ht : t ∉ ps) (htf : t ∈ fz → k.owning = false) (hcalm : calm ps rb fz k = true) (htm : ∀ p, p ∉ ps → tm' p = tm p) : RelK P B s w' h' tm' t v k := by
  obtain ⟨hto, hle, hin⟩ := calm_spec hcalm
  have hF : Same h.F w w' := fun b hb => hs.F_same hok hb
  cases k with
  | no => trivial
  | val e sh =>
    obtain ⟨x, h0, h1⟩ := hk
    have hsh : ∀ p ∈ ps, p ∉ sh := fun p hp hin => by have := hto p hp; simp [touches] at this; exact this hin
    exact ⟨x, h0, h1.keep (hs.ext_same hok hsh) (hs.ext_mono hsh)⟩
  | own ty e =>
    obtain ⟨x, h0, h1⟩ := hk
    refine ⟨x, h0, ?_⟩
    have htf : t ∉ fz := fun hf => by cases htf hf
    rw [hs.bl t ht htf]
    exact h1.keep hF hs.F fun b hb => hs.bl_same hok ht hb
  | nil => exact hk
  | mem cs =>
    obtain ⟨b, vs, T, h1, h2, h3, h4⟩ := hk
    have htf : t ∉ fz := fun hf => by cases htf hf
    exact ⟨b, vs, T, by rw [hs.bl t ht htf]; exact h1, h2, by rw [hs.bl_same hok ht h1]; exact h3, h4.keep hF hs.F (fun i => by rw [hs.bl t ht htf]) fun i b hb => hs.bl_same hok ht hb⟩
  | ags cs =>
    obtain ⟨vs, h2, h4⟩ := hk
    have htf : t ∉ fz := fun hf => by cases htf hf
    exact ⟨vs, h2, h4.keep hF hs.F (fun i => by rw [hs.bl t ht htf]) fun i b hb => hs.bl_same hok ht hb⟩
  | ref p =>
    have hp : p ∉ ps := fun hp => by have := hto p hp; simp [touches] at this
    exact (htm p hp).trans hk
  | refm p i =>
    have hp : p ∉ ps := fun hp => by have := hto p hp; simp [touches] at this
    obtain ⟨b, h1, h2⟩ := hk
    exact ⟨b, by rw [hs.fz0 p (fun hr => hp (hrb p hr))]; exact h1, by rw [World.cell?_of_block (w := w) (a := ⟨b, i, none⟩) (hs.bl_same hok hp h1)]; exact h2⟩
  | pm p o =>
    obtain ⟨b, h1, h2⟩ := hk
    have hp : p ∉ rb := fun hp => by have := hle p hp; simp [leads] at this
    exact ⟨b, by rw [hs.fz0 p hp]; exact h1, h2⟩
  | pc e o sh =>
    obtain ⟨x, b, q, vs, h0, h1, h2, h3, h4, h5⟩ := hk
    have hsh : ∀ p ∈ ps, p ∉ sh := fun p hp hin => by have := hto p hp; simp [touches] at this; exact this hin
    exact ⟨x, b, q, vs, h0, h1, hs.ext_mono hsh b h2, h3, fun i hi => by rw [(hs.ext_same hok hsh).cell h2]; exact h4 i hi, fun i ck hi => (h5 i ck hi).keep (hs.ext_same hok hsh) (hs.ext_mono hsh)⟩
  | pe p i j o k =>
    have hp : p ∉ ps := fun hp => by have := hto p hp; simp [touches] at this
    have hpf : p ∉ fz := fun hp => by simp [intoOne] at hin; exact hin hp
    obtain ⟨n, q, h1, h2, h3⟩ := hk
    exact ⟨n, q, by rw [hs.bl p hp hpf]; exact h1, h2, h3⟩
  | pa p o j n k =>
    have hp : p ∉ rb := fun hp => by have := hle p hp; simp [leads] at this
    obtain ⟨b, q, h1, h2, h3, h4⟩ := hk
    exact ⟨b, q, by rw [hs.fz0 p hp]; exact h1, h2, h3, h4⟩
  | clo f caps =>
    obtain ⟨vs, h1, h2, h3⟩ := hk
    refine ⟨vs, h1, h2, fun i p hi => ?_⟩
    obtain ⟨b, h4, h5⟩ := h3 i p hi
    have hp : p ∉ rb := fun hp => by have := hle p hp; simp [leads] at this; exact this (List.mem_of_getElem? hi)
    exact ⟨b, by rw [hs.fz0 p hp]; exact h4, h5⟩
end
/-! ### What an operation must come to -/
/-- behind an operation that turns its own temporary alone -/
def PRes (c : Ctx) (B : Nat) (G : Nat → Prop) (s : St) (w : World) (h : GH) (tm : Nat → Option Value) (d : Nat) (k : TK) (v : Value) (w' : World) : Prop :=
  ∃ h', Step B [d] [d] [] w w' h h' ∧ Ok B G w' h' ∧ RelK c.P B s w' h' tm d v k

section
variable {c : Ctx} {B : Nat} {G : Nat → Prop} {s : St} {a : Act} {w : World} {h : GH} {g : Gam} {C : Conds}

theorem Step.refl (ps rb : List Nat) (w : World) (h : GH) : Step B ps rb [] w w h h := ⟨Below.refl _ _, fun _ _ _ => rfl, fun _ hb => hb, fun _ _ _ => rfl, fun _ _ => rfl, fun _ _ _ _ hm => (by simp at hm), rfl⟩
/-- nothing but a value -/
theorem PRes.here {tm : Nat → Option Value} {d : Nat} {k : TK} {v : Value} (hok : Ok B G w h) (hk : RelK c.P B s w h tm d v k) : PRes c B G s w h tm d k v w :=
  ⟨h, Step.refl _ _ _ _, hok, hk⟩

theorem opK_tmp (hr : RelG c B G s a w h g) (hC : holds s (ixC c C)) {x : Operand} {k : TK} (hx : opK g C x = k) (hk : k.isNo = false) :
    (∃ v, x = .const v) ∨ (∃ t, x = .tmp t ∧ look g C t = k ∧ ∃ v, a.tmps[t]? = some v ∧ a.eval x = v ∧ RelK c.P B s w h (fun p => a.tmps[p]?) t v k) ∨ ∃ f, x = .func f ∧ .val (.c (.fn f)) [] = k := by
  cases x with
  | const v => exact .inl ⟨v, rfl⟩
  | tmp t =>
    have hx' : look g C t = k := hx
    obtain ⟨v, hv, hrel, _⟩ := hr.look hC hx' hk
    exact .inr (.inl ⟨t, rfl, hx', v, hv, Act.eval_tmp a t v hv, hrel⟩)
  | global q => simp only [opK] at hx; subst hx; simp [TK.isNo] at hk
  | func f => exact .inr (.inr ⟨f, rfl, hx⟩)

/-- an operand reads as its expression's value -/
theorem opE_rd (hr : RelG c B G s a w h g) (hC : holds s (ixC c C)) {x : Operand} {e : E} {sh : List Nat} (he : opE g C x = some (e, sh)) :
    ∃ y, eval s e = some y ∧ Rd w (h.ext sh) y (a.eval x) := by
  unfold opE at he
  cases x with
  | tmp t =>
    simp only at he
    have hn : (opK g C (.tmp t)).isNo = false := by
      cases hk : opK g C (.tmp t) <;> first | rfl | (rw [hk] at he; simp [asE] at he)
    obtain ⟨v, hv, hrel, _⟩ := hr.look hC (rfl : look g C t = opK g C (.tmp t)) hn
    rw [Act.eval_tmp a t v hv]
    exact asE_rd hr hv hrel he
  | const v =>
    simp only [opK] at he
    split at he
    · rename_i heq
      simp only [Operand.const.injEq] at heq
      subst heq
      simp only [asE, Option.some.injEq, Prod.mk.injEq] at he
      obtain ⟨rfl, rfl⟩ := he
      exact ⟨_, rfl, .nil _ _ (Nat.zero_le _)⟩
    · rename_i heq
      simp only [Operand.const.injEq] at heq
      subst heq
      split at he
      · rename_i x hx
        simp only [asE, Option.some.injEq, Prod.mk.injEq] at he
        obtain ⟨rfl, rfl⟩ := he
        exact ⟨x, rfl, cellV_rd hx _ _⟩
      · simp [asE] at he
    · rename_i heq; simp at heq
    · rename_i heq; simp at heq
    · simp [asE] at he
  | global q => simp [opK, asE] at he
  | func f =>
    simp only [opK, asE, Option.some.injEq, Prod.mk.injEq] at he
    obtain ⟨rfl, rfl⟩ := he
    exact ⟨.fn f, rfl, .fn f⟩

theorem opK_val_rd (hr : RelG c B G s a w h g) (hC : holds s (ixC c C)) {x : Operand} {e : E} {sh : List Nat} (he : opK g C x = .val e sh) :
    ∃ y, eval s e = some y ∧ Rd w (h.ext sh) y (a.eval x) := opE_rd hr hC (by unfold opE; rw [he]; rfl)

theorem opK_nil (hr : RelG c B G s a w h g) (hC : holds s (ixC c C)) {x : Operand} (he : opK g C x = .nil) : a.eval x = .slice none 0 0 := by
  rcases opK_tmp hr hC he rfl with ⟨v, rfl⟩ | ⟨t, rfl, _, v, hv, hev, hrel⟩ | ⟨f, _, hf⟩
  rotate_left 2
  · cases hf
  · simp only [opK] at he
    split at he
    · rename_i heq; simp only [Operand.const.injEq] at heq; subst heq; rfl
    · split at he <;> simp at he
    · rename_i heq; simp at heq
    · rename_i heq; simp at heq
    · simp at he
  · rw [hev]; exact hrel

theorem Rd.F {x : V} {v : Value} (hx : Rd w (h.ext []) x v) : Rd w h.F x v := hx.mono fun _ hb => GH.ext_nil hb
/-- a value without lists or pointers needs no memory -/
theorem Rd.flat {G' G'' : Nat → Prop} {x : V} {v : Value} (hx : Rd w G' x v) (hf : x.flatc = true) : Rd w G'' x v := by
  cases hx <;> first | exact .int _ _ | exact .bool _ | exact .str _ | simp [V.flatc] at hf

/-! ### Numbers -/
theorem run_binV {op : BinOp} {x y z : V} (hz : binV op x y = some z) {G' G'' : Nat → Prop} {v u : Value} (hv : Rd w G' x v) (hu : Rd w G'' y u) (T : TypeId) (xo yo : Operand) :
    ∃ r, (do eqGuard op T xo yo v u; binOp op T v u : Sem Value).run c.P w = .ok r w ∧ Rd w h.F z r := by
  cases hv <;> cases hu <;> (try (cases op <;> simp [binV] at hz; done))
  rename_i k n k' n'
  cases op <;> simp only [binV] at hz <;> (try split at hz) <;> (try simp only [Option.some.injEq] at hz) <;> (try subst hz) <;> (try (simp at hz; done))
  all_goals
    first | refine ⟨.int _ _, ?_, .int _ _⟩ | refine ⟨.bool _, ?_, .bool _⟩
    first
      | (rename_i hk; subst hk; simp [eqGuard, binOp, Op.intArith, Op.intBits, Op.intCmp]; done)
      | (rename_i hk; obtain ⟨rfl, hb⟩ := hk; simp [eqGuard, binOp, Op.intDiv, hb]; done)
      | (rename_i hk; have : ¬ n' < 0 := by omega
         simp [eqGuard, binOp, Op.shift, this]; done)

theorem run_eqV {neg : Bool} {x y z : V} (hz : eqV neg x y = some z) {G' G'' : Nat → Prop} {v u : Value} (hv : Rd w G' x v) (hu : Rd w G'' y u) {T : TypeId} (hT : eqTy c.P T = true) (xo yo : Operand) :
    ∃ r, (do eqGuard (if neg then .neq else .eql) T xo yo v u; binOp (if neg then .neq else .eql) T v u : Sem Value).run c.P w = .ok r w ∧ Rd w h.F z r := by
  have hT' : c.P.underlying T = some .bool := by
    unfold eqTy at hT
    split at hT
    · assumption
    · simp at hT
  cases hv with
  | bool a =>
    cases hu with
    | bool b =>
      simp only [eqV, Option.some.injEq] at hz
      subst hz
      refine ⟨.bool _, ?_, .bool _⟩
      cases neg
      · have := run_eql_bool (P := c.P) w T a b hT'
        simp [eqGuard, this]
      · have := run_neq_bool (P := c.P) w T a b hT'
        simp [eqGuard, this]
    | _ => simp [eqV] at hz
  | _ => simp [eqV] at hz

theorem run_unV {op : UnOp} {x z : V} (hz : unV op x = some z) {G' : Nat → Prop} {v : Value} (hv : Rd w G' x v) : ∃ r, (Op.unary op v).run c.P w = .ok r w ∧ Rd w h.F z r := by
  cases hv <;> (try (cases op <;> simp [unV] at hz; done))
  · rename_i k n
    cases op <;> simp only [unV, Option.some.injEq] at hz <;> first | (simp at hz; done) | skip
    subst hz
    exact ⟨.int _ _, by simp [Op.unary, Op.intArith], .int _ _⟩
  · rename_i b
    cases op <;> simp only [unV, Option.some.injEq] at hz <;> first | (simp at hz; done) | skip
    subst hz
    exact ⟨.bool _, by simp [Op.unary], .bool _⟩
theorem run_convV {k : IntKind} {x z : V} (hz : convV k x = some z) {G' : Nat → Prop} {v : Value} (hv : Rd w G' x v) {S T : TypeId} (hS : (c.P.underlying S).isSome = true) (hT : c.P.underlying T = some (.int k)) :
    ∃ r, (convert S T v).run c.P w = .ok r w ∧ Rd w h.F z r := by
  obtain ⟨dS, hS⟩ := Option.isSome_iff_exists.1 hS
  cases hv <;> (try (simp [convV] at hz; done))
  simp only [convV, Option.some.injEq] at hz
  subst hz
  exact ⟨.int _ _, by simp [convert, run_underlying hS, run_underlying hT, Conv.intToInt], .int _ _⟩
theorem run_lenV {x z : V} (hz : lenV x = some z) {G' : Nat → Prop} {v : Value} (hv : Rd w G' x v) {T ty e : TypeId} (hT : c.P.underlying T = some (.slice e)) :
    ∃ r, (Builtin.len_ #[T] ty #[v]).run c.P w = .ok r w ∧ Rd w h.F z r := by
  cases hv with
  | nil a' cap hc =>
    simp only [lenV, Option.some.injEq] at hz
    subst hz
    exact ⟨.int .i64 0, by simp [Builtin.len_, run_underlying hT, goInt], .int _ _⟩
  | sl l b o cap k vs h1 h2 h3 h4 h5 h6 =>
    simp only [lenV, Option.some.injEq] at hz
    subst hz
    exact ⟨.int .i64 l.length, by simp [Builtin.len_, run_underlying hT, goInt], .int _ _⟩
  | _ => simp [lenV] at hz
theorem run_minV {x y z : V} (hz : minV x y = some z) {G' G'' : Nat → Prop} {v u : Value} (hv : Rd w G' x v) (hu : Rd w G'' y u) (ts : Array TypeId) (ty : TypeId) :
    ∃ r, (Builtin.min_ ts ty #[v, u]).run c.P w = .ok r w ∧ Rd w h.F z r := by
  cases hv <;> (try (simp [minV] at hz; done))
  cases hu <;> (try (simp [minV] at hz; done))
  rename_i k n k' n'
  simp only [minV, Option.some.injEq] at hz
  subst hz
  exact ⟨.int k _, by simp [Builtin.min_, Builtin.min2], .int _ _⟩
theorem run_maxV {x y z : V} (hz : maxV x y = some z) {G' G'' : Nat → Prop} {v u : Value} (hv : Rd w G' x v) (hu : Rd w G'' y u) (ts : Array TypeId) (ty : TypeId) :
    ∃ r, (Builtin.max_ ts ty #[v, u]).run c.P w = .ok r w ∧ Rd w h.F z r := by
  cases hv <;> (try (simp [maxV] at hz; done))
  cases hu <;> (try (simp [maxV] at hz; done))
  rename_i k n k' n'
  simp only [maxV, Option.some.injEq] at hz
  subst hz
  exact ⟨.int k _, by simp [Builtin.max_, Builtin.max2], .int _ _⟩
theorem run_extV {x z : V} {i : Nat} (hz : extV x i = some z) {G' : Nat → Prop} {v : Value} (hv : Rd w G' x v) : ∃ r, (Instr.extract v i).run c.P w = .ok r w ∧ Rd w G' z r := by
  cases hv <;> (try (simp [extV] at hz; done))
  rename_i l vs h1 h2
  simp only [extV] at hz
  have hlt : i < vs.size := by rw [h1]; exact (List.getElem?_eq_some_iff.1 hz).1
  refine ⟨vs.getD i undef, ?_, h2 i z hz⟩
  simp [Instr.extract, hlt, Array.getD_eq_getD_getElem?]

/-! ### Memory -/
theorem okT_of {P : Program} {T : TypeId} (hT : okT P T = true) : ∃ d i, P.underlying T = some d ∧ P.info? T = some i ∧ P.cellsOf T = i.size ∧ ∀ w : World, (isAgg T).run P w = .ok (isAggT P T) w := by
  simp only [okT, Bool.and_eq_true] at hT
  obtain ⟨d, hd⟩ := Option.isSome_iff_exists.1 hT.1
  obtain ⟨i, hi⟩ := Option.isSome_iff_exists.1 hT.2
  refine ⟨d, i, hd, hi, by simp [Program.cellsOf, hi], fun w => ?_⟩
  unfold isAgg isAggT
  rw [Sem.run_bind, run_underlying hd w, hd]
  cases d <;> rfl
theorem run_szOf {P : Program} {T : TypeId} {i : TypeInfo} (hi : P.info? T = some i) (w : World) : (Go.sizeOf T).run P w = .ok i.size w := by
  simp [Go.sizeOf, typeInfo, hi]
theorem run_load1 {P : Program} {T : TypeId} (hT : okT P T = true) (hag : isAggT P T = false) {b o : Nat} {v : Value} (hc : w.cell? ⟨b, o, none⟩ = some v) :
    (Instr.loadAt T (.pointer (some ⟨b, o, none⟩))).run P w = .ok v w := by
  obtain ⟨d, i, hd, hi, hs, hagg⟩ := okT_of hT
  simp [Instr.loadAt, Instr.sureAddr, loadVar, hagg, hag, hc]
theorem run_loadN {P : Program} {T : TypeId} (hT : okT P T = true) (hag : isAggT P T = true) {b o : Nat} (vs : List Value) (hn : vs.length = P.cellsOf T) (hc : ∀ i u, vs[i]? = some u → w.cell? ⟨b, o + i, none⟩ = some u) :
    (Instr.loadAt T (.pointer (some ⟨b, o, none⟩))).run P w = .ok (.agg vs.toArray) w := by
  obtain ⟨d, i, hd, hi, hs, hagg⟩ := okT_of hT
  have hl := run_loadCells_list (P := P) w ⟨b, o, none⟩ vs (fun j u hj => by rw [Addr.add_lit]; exact hc j u hj)
  rw [hn, hs] at hl
  simp [Instr.loadAt, Instr.sureAddr, loadVar, hagg, hag, run_szOf hi, hl]

theorem oneV_some {x z : V} (h : oneV x = some z) : x = z ∧ z.one = true := by
  unfold oneV at h
  split at h
  · simp only [Option.some.injEq] at h; subst h; exact ⟨rfl, by assumption⟩
  · simp at h
theorem plainRun_spec {p : Nat} {cs : List (CK × E)} : ∀ {i : Nat}, plainRun p i cs = true → ∀ (j : Nat) (x : CK × E), cs[j]? = some x → x.2 = E.m p (i + j) := by
  induction cs with
  | nil => intro i _ j x hj; simp at hj
  | cons y r ih =>
    intro i hp j x hj
    obtain ⟨k, e⟩ := y
    cases e <;> simp only [plainRun] at hp <;> first | (cases hp; done) | skip
    rename_i q l
    simp only [Bool.and_eq_true, beq_iff_eq] at hp
    obtain ⟨⟨rfl, rfl⟩, hp⟩ := hp
    cases j with
    | zero => simp at hj; subst hj; rfl
    | succ j => rw [ih hp j x (by simpa using hj)]; congr 1; omega
/-- cells of a variable as they were when the region began: its part -/
theorem eval_run {p i : Nat} {cs : List (CK × E)} {x : List V} (hp : plainRun p i cs = true) (hne : 0 < cs.length) (hx : eval s (.ag (cs.map (·.2))) = some (.agg x)) (hone : ∀ (j : Nat) (e : CK × E), cs[j]? = some e → ∃ y, eval s e.2 = some y ∧ y.one = true) :
    eval s (.mm p i cs.length) = some (.agg x) := by
  simp only [eval, Option.map_eq_some_iff] at hx
  obtain ⟨ys, hys, hag⟩ := hx
  obtain ⟨hl, hget⟩ := evals_map hys
  have hl' : ys.length = cs.length := by simpa using hl
  have hy : ∀ j, j < cs.length → ∃ l, get s p = .m l ∧ ∃ y, l[i + j]? = some y ∧ ys[j]? = some y := by
    intro j hj
    obtain ⟨y, hy, he⟩ := hget j (cs[j].2) (by simp [hj])
    rw [plainRun_spec hp j cs[j] (by simp [hj])] at he
    simp only [eval] at he
    split at he
    · rename_i l hl
      rw [Option.bind_eq_some_iff] at he
      obtain ⟨y', he, h1⟩ := he
      obtain ⟨rfl, _⟩ := oneV_some h1
      exact ⟨l, hl, y', he, hy⟩
    · simp at he
  obtain ⟨l, hl0, _⟩ := hy 0 hne
  have hyl : ∀ j, j < cs.length → l[i + j]? = ys[j]? := by
    intro j hj
    obtain ⟨l', hl', y, h1, h2⟩ := hy j hj
    rw [hl0] at hl'; cases hl'
    rw [h1, h2]
  have hlen : i + cs.length ≤ l.length := by
    have h1 := hyl (cs.length - 1) (by omega)
    have h2 : ys[cs.length - 1]? = some ys[cs.length - 1] := List.getElem?_eq_getElem (by omega)
    rw [h2] at h1
    have := (List.getElem?_eq_some_iff.1 h1).1
    omega
  have hys' : (l.drop i).take cs.length = ys := by
    apply List.ext_getElem?
    intro j
    rw [List.getElem?_take]
    split
    · rename_i hj; rw [List.getElem?_drop]; exact hyl j hj
    · rename_i hj; rw [List.getElem?_eq_none (by omega)]
  have hone' : ∀ y ∈ ys, y.one = true := by
    intro y hym
    obtain ⟨j, hj⟩ := List.getElem?_of_mem hym
    have hlt : j < cs.length := by have := (List.getElem?_eq_some_iff.1 hj).1; omega
    obtain ⟨z, hz, hz1⟩ := hone j cs[j] (by simp [hlt])
    obtain ⟨z', hz', he'⟩ := hget j (cs[j].2) (by simp [hlt])
    rw [hj] at hz'; cases hz'
    rw [hz] at he'; cases he'
    exact hz1
  have hx' : x = ys := by
    simp only [agV, V.agg.injEq] at hag
    rw [← hag, flat_one hone']
  subst hx'
  simp only [eval, hl0, hlen, if_true, hys']

theorem RelCs.part {P : Program} {t : Nat} {cs : List (CK × E)} {vs : Array Value} (hr : RelCs P B s w h t cs vs) {o n : Nat} (hn : ((cs.drop o).take n).length = n) :
    ∀ (i : Nat) (ck : CK × E), ((cs.drop o).take n)[i]? = some ck → RelC P B s w h (h.bl t (o + i + 1)) ck.1 ck.2 (vs.getD (o + i) undef) ∧ vs[o + i]? = some (vs.getD (o + i) undef) := by
  intro i ck hi
  rw [List.getElem?_take] at hi
  split at hi
  · rw [List.getElem?_drop] at hi
    refine ⟨hr.2 _ _ hi, ?_⟩
    have hlt : o + i < vs.size := by rw [hr.1]; exact (List.getElem?_eq_some_iff.1 hi).1
    simp [Array.getD_eq_getD_getElem?, hlt]
  · simp at hi
/-- a part of a variable's cells, as an aggregate -/
theorem RelCs.part_rd {P : Program} {t : Nat} {cs : List (CK × E)} {vs : Array Value} (hr : RelCs P B s w h t cs vs) {o n : Nat} (hn : ((cs.drop o).take n).length = n) (hd : anyDead ((cs.drop o).take n) = false) {G' : Nat → Prop} (hF : ∀ b, h.F b → G' b)
    (ho : anyOwn ((cs.drop o).take n) = true → ∀ i b, h.bl t (i + 1) = some b → G' b) :
    ∃ x, eval s (.ag (((cs.drop o).take n).map (·.2))) = some (.agg x) ∧ x.length = n ∧ (∀ (j : Nat) (e : CK × E), ((cs.drop o).take n)[j]? = some e → ∃ y, eval s e.2 = some y ∧ y.one = true) ∧
      Rd w G' (.agg x) (.agg ((vs.toList.drop o).take n).toArray) ∧ ∀ (i : Nat) (u : Value), ((vs.toList.drop o).take n)[i]? = some u → vs[o + i]? = some u := by
  have hp := hr.part hn
  have hvl : ((vs.toList.drop o).take n).length = n := by
    have h1 := hr.1
    simp only [List.length_take, List.length_drop, Array.length_toList] at hn ⊢
    omega
  have hvg : ∀ i, i < n → ((vs.toList.drop o).take n)[i]? = vs[o + i]? := by
    intro i hi
    rw [List.getElem?_take, if_pos hi, List.getElem?_drop, Array.getElem?_toList]
  have key : ∀ i k e, ((cs.drop o).take n)[i]? = some (k, e) → ∃ x, eval s e = some x ∧ x.one = true ∧ Rd w G' x (vs.getD (o + i) undef) := by
    intro i k e hi
    have hmem := List.mem_of_getElem? hi
    refine (hp i (k, e) hi).1.rd ?_ hF ?_
    · intro hk
      simp only at hk
      have : anyDead ((cs.drop o).take n) = true := by
        simp only [anyDead, List.any_eq_true]
        exact ⟨(k, e), hmem, by simp [hk]⟩
      rw [hd] at this; cases this
    · intro ty hk b hb
      simp only at hk
      exact ho (by simp only [anyOwn, List.any_eq_true]; exact ⟨(k, e), hmem, by simp [hk]⟩) _ _ hb
  have hsome : ∀ e ∈ ((cs.drop o).take n).map (·.2), ∃ x, eval s e = some x := by
    intro e he
    obtain ⟨⟨k, e'⟩, hm, rfl⟩ := List.mem_map.1 he
    obtain ⟨i, hi⟩ := List.getElem?_of_mem hm
    obtain ⟨x, hx, _⟩ := key i k e' hi
    exact ⟨x, hx⟩
  obtain ⟨xs, hxs⟩ := evals_some hsome
  obtain ⟨hl, hx⟩ := evals_map hxs
  have hl' : xs.length = n := by rw [hl, List.length_map, hn]
  have hall : ∀ i x, xs[i]? = some x → x.one = true ∧ Rd w G' x (vs.getD (o + i) undef) := by
    intro i x hi
    have hlt : i < ((cs.drop o).take n).length := by
      have := (List.getElem?_eq_some_iff.1 hi).1; omega
    obtain ⟨y, hy, h1, h2⟩ := key i ((cs.drop o).take n)[i].1 ((cs.drop o).take n)[i].2 (by rw [List.getElem?_eq_getElem hlt])
    obtain ⟨z, hz, hz'⟩ := hx i (((cs.drop o).take n)[i].2) (by rw [List.getElem?_map, List.getElem?_eq_getElem hlt]; rfl)
    rw [hi] at hz; cases hz
    rw [hy] at hz'; cases hz'
    exact ⟨h1, h2⟩
  have hone : ∀ x ∈ xs, x.one = true := fun x hxm => by
    obtain ⟨i, hi⟩ := List.getElem?_of_mem hxm
    exact (hall i x hi).1
  refine ⟨xs, ?_, hl', fun j e hj => ?_, .agg xs _ (by simp only [List.size_toArray]; omega) hone fun i x hi => ?_, fun i u hi => ?_⟩
  · simp only [eval, hxs, Option.map_some, agV, flat_one hone]
  · obtain ⟨y, hy, h1, _⟩ := key j e.1 e.2 hj
    exact ⟨y, hy, h1⟩
  · have hlt : i < n := by have := (List.getElem?_eq_some_iff.1 hi).1; omega
    have : ((vs.toList.drop o).take n).toArray.getD i undef = vs.getD (o + i) undef := by
      simp only [Array.getD_eq_getD_getElem?, List.getElem?_toArray, hvg i hlt]
    rw [this]
    exact (hall i x hi).2
  · have hlt : i < n := by have := (List.getElem?_eq_some_iff.1 hi).1; omega
    rw [← hvg i hlt]; exact hi
end
end Vm
