/-
  The bridge: arguments that are read as data read as values; a contract on values answers a law's statement.
-/
import Derived.Test.YtfplljcicihneaaWa
import Derived.Carry
import Derived.ProofKit
import Derived.OpenShut
namespace Vm
open Go Go.ChangeShapes Go.WideShapes Go.ChangeAt Go.RowKit
set_option linter.unusedSimpArgs false
set_option linter.unusedVariables false

/-! ### Types of plain data -/
def fldsOk (P : Program) (n : Nat) : List Field → Nat → Bool
  | [], o => o == n
  | f :: l, o => f.offset == o && fldsOk P n l (o + P.cellsOf f.type)
def okTy (P : Program) : Nat → TypeId → Bool
  | 0, _ => false
  | n + 1, t => match P.underlying t with
    | some .bool | some (.int _) | some .string => true
    | some (.slice e) => okTy P n e && decide (0 < P.cellsOf e)
    | some (.struct fs) => fldsOk P (P.cellsOf t) fs.toList 0 && fs.toList.all fun f => okTy P n f.type
    | some (.array m e) => okTy P n e && m * P.cellsOf e == P.cellsOf t
    | _ => false
def tyV (P : Program) : Nat → TypeId → V → Prop
  | 0, _, _ => False
  | n + 1, t, x => match P.underlying t with
    | some .bool => ∃ b, x = .bool b
    | some (.int k) => ∃ m, x = .int k m ∧ (Lit.int k m).wf = true
    | some .string => ∃ s, x = .str s ∧ s.size ≤ maxLen
    | some (.slice e) => ∃ l, x = .sl l ∧ l.length ≤ maxLen ∧ ∀ y ∈ l, tyV P n e y
    | some (.struct fs) => ∃ ys, x = .agg (flat ys) ∧ ys.length = fs.toList.length ∧ ∀ (i : Nat) (f : Field) (y : V), fs.toList[i]? = some f → ys[i]? = some y → tyV P n f.type y
    | some (.array m e) => ∃ ys, x = .agg (flat ys) ∧ ys.length = m ∧ ∀ y ∈ ys, tyV P n e y
    | _ => False

/-- cells, read one by one -/
def RdC (w : World) (G : Nat → Prop) (cs : List V) (vs : List Value) : Prop :=
  vs.length = cs.length ∧ ∀ (i : Nat) (c : V), cs[i]? = some c → c.one = true ∧ ∃ u, vs[i]? = some u ∧ Rd w G c u
theorem RdC.nil {w : World} {G : Nat → Prop} : RdC w G [] [] := ⟨rfl, fun i c h => by simp at h⟩
theorem RdC.append {w : World} {G : Nat → Prop} {cs cs' : List V} {vs vs' : List Value} (h : RdC w G cs vs) (h' : RdC w G cs' vs') : RdC w G (cs ++ cs') (vs ++ vs') := by
  refine ⟨by simp [h.1, h'.1], fun i c hi => ?_⟩
  rw [List.getElem?_append] at hi ⊢
  rw [h.1]
  split at hi
  · rename_i hlt
    rw [if_pos hlt]
    exact h.2 i c hi
  · rename_i hlt
    rw [if_neg hlt]
    exact h'.2 _ c hi
theorem RdC.one {w : World} {G : Nat → Prop} {c : V} {v : Value} (h1 : c.one = true) (h : Rd w G c v) : RdC w G [c] [v] :=
  ⟨rfl, fun i x hi => by
    cases i with
    | zero => simp at hi; subst hi; exact ⟨h1, v, rfl, h⟩
    | succ i => simp at hi⟩
theorem choose_list {α : Type} {Q : Nat → α → Prop} : ∀ (n : Nat), (∀ i, i < n → ∃ y, Q i y) → ∃ l : List α, l.length = n ∧ ∀ (i : Nat) (y : α), l[i]? = some y → Q i y
  | 0, _ => ⟨[], rfl, fun i y h => by simp at h⟩
  | n + 1, h => by
    obtain ⟨l, h1, h2⟩ := choose_list n fun i hi => h i (by omega)
    obtain ⟨y, hy⟩ := h n (by omega)
    refine ⟨l ++ [y], by simp [h1], fun i z hz => ?_⟩
    rw [List.getElem?_append] at hz
    split at hz
    · exact h2 i z hz
    · rename_i hlt
      rw [List.getElem?_singleton] at hz
      split at hz
      · rename_i he
        have : i = n := by omega
        subst this
        simp only [Option.some.injEq] at hz
        subst hz; exact hy
      · cases hz
theorem cells_some {w : World} {b : Nat} {a : Addr} {n : Nat} {cs : List Value} (h : w.cells? b a n = some cs) : cs.length = n ∧ ∀ i, i < n → w.cell? (a.add i) = cs[i]? := by
  unfold World.cells? at h
  split at h
  · have h1 := mapM_some_length h
    rw [List.length_range] at h1
    refine ⟨h1, fun i hi => mapM_some_get h i i ?_⟩
    rw [List.getElem?_range hi]
  · cases h
theorem cell_lt {w : World} {a : Addr} {v : Value} (h : w.cell? a = some v) : a.block < w.heap.size := by
  unfold World.cell? at h
  rcases Nat.lt_or_ge a.block w.heap.size with h1 | h1
  · exact h1
  · have : w.heap[a.block]? = none := by simp [h1]
    simp [this] at h

/-- values of the same length, side by side -/
theorem rdc_flat {w : World} {G : Nat → Prop} : ∀ {ys : List V} {vss : List (List Value)}, vss.length = ys.length → (∀ (i : Nat) (y : V) (vs : List Value), ys[i]? = some y → vss[i]? = some vs → RdC w G y.cells vs) → RdC w G (flat ys) vss.flatten
  | [], [], _, _ => by simpa using RdC.nil
  | [], _ :: _, h, _ => by simp at h
  | _ :: _, [], h, _ => by simp at h
  | y :: ys, vs :: vss, h, hr => by
    rw [flat_cons, List.flatten_cons]
    exact (hr 0 y vs rfl rfl).append (rdc_flat (by simpa using h) fun i z us hz hu => hr (i + 1) z us (by simpa using hz) (by simpa using hu))
theorem flds_cut {P : Program} {n : Nat} {cs : List Value} : ∀ {l : List Field} {o : Nat}, fldsOk P n l o = true → o ≤ n ∧ (cs.length = n → cs.drop o = (l.map fun f => (cs.drop f.offset).take (P.cellsOf f.type)).flatten)
  | [], o, h => by
    simp only [fldsOk, beq_iff_eq] at h
    subst h
    exact ⟨Nat.le_refl _, fun hc => by simp [← hc]⟩
  | f :: l, o, h => by
    simp only [fldsOk, Bool.and_eq_true, beq_iff_eq] at h
    obtain ⟨h1, h2⟩ := h
    obtain ⟨h3, h4⟩ := flds_cut (cs := cs) h2
    refine ⟨by omega, fun hc => ?_⟩
    rw [List.map_cons, List.flatten_cons, ← h4 hc, h1, ← List.drop_drop, List.take_append_drop]
theorem arr_cut {cs : List Value} {k : Nat} : ∀ {m : Nat}, cs.length = m * k → cs = ((List.range m).map fun i => (cs.drop (i * k)).take k).flatten := by
  have : ∀ (m : Nat) (cs : List Value), cs.take (m * k) = ((List.range m).map fun i => (cs.drop (i * k)).take k).flatten := by
    intro m
    induction m with
    | zero => intro cs; simp
    | succ m ih =>
      intro cs
      rw [List.range_succ, List.map_append, List.flatten_append, ← ih, Nat.succ_mul, List.take_add]
      simp
  intro m h
  have h2 := this m cs
  rw [List.take_of_length_le (by omega)] at h2
  exact h2

section
variable {H : Type} {enc : TypeId × Value → H} {P : Program} {w : World} {spare : Nat → Bool} {held : Bool}
theorem read_trod : ∀ {n : Nat} {t : TypeId} {fuel : Nat} {cs : List Value} {d : DataW H × List MemPlace}, okTy P n t = true → DataW.trod enc P w 0 spare held fuel t cs = some d →
    ∃ x, tyV P n t x ∧ RdC w (fun b => b < w.heap.size) x.cells cs
  | 0, t, fuel, cs, d, hk, h => by cases hk
  | n + 1, t, fuel, cs, d, hk, h => by
    unfold okTy at hk
    unfold tyV
    split at hk
    · rename_i ht
      obtain ⟨b, rfl, _⟩ := DataW.trod_bool ht h
      exact ⟨.bool b, ⟨b, rfl⟩, .one rfl (.bool b)⟩
    · rename_i k ht
      obtain ⟨m, rfl, _, hw⟩ := DataW.trod_int ht h
      exact ⟨.int k m, ⟨m, rfl, hw⟩, .one rfl (.int k m)⟩
    · rename_i ht
      obtain ⟨s, rfl, _, hw⟩ := DataW.trod_string ht h
      exact ⟨.str s, ⟨s, rfl, hw⟩, .one rfl (.str s)⟩
    · rename_i e ht
      simp only [Bool.and_eq_true, decide_eq_true_eq] at hk
      obtain ⟨hk1, hk2⟩ := hk
      rcases DataW.trod_slice ht h with ⟨rfl, _⟩ | ⟨a, len, cap, elems, rest, m, _, rfl, _, _, hlc, hcm, hel, hat, _⟩
      · exact ⟨.sl [], ⟨[], rfl, by simp, by simp⟩, .one rfl (.nil _ _ (Nat.zero_le _))⟩
      · have heach : ∀ i, i < len → ∃ y, tyV P n e y ∧ ∃ vs, w.cells? 0 (a.add (i * P.cellsOf e)) (P.cellsOf e) = some vs ∧ RdC w (fun b => b < w.heap.size) y.cells vs := by
          intro i hi
          have h1 := hat i hi
          rw [List.getElem?_eq_getElem (by omega)] at h1
          simp only [Option.bind_eq_some_iff] at h1
          obtain ⟨vs, h2, h3⟩ := h1
          obtain ⟨y, hy, hr⟩ := read_trod hk1 h3
          exact ⟨y, hy, vs, h2, hr⟩
        obtain ⟨l, hl1, hl2⟩ := choose_list len heach
        have hty : ∀ y ∈ l, tyV P n e y := fun y hy => by
          obtain ⟨i, hi⟩ := List.getElem?_of_mem hy
          exact (hl2 i y hi).1
        refine ⟨.sl l, ⟨l, rfl, by omega, hty⟩, .one rfl ?_⟩
        cases hlen : len with
        | zero =>
          have : l = [] := List.eq_nil_of_length_eq_zero (by omega)
          subst this
          exact .nil _ _ hcm
        | succ len' =>
          obtain ⟨b, o, spot⟩ := a
          have hspot : spot = none := by
            obtain ⟨y, _, vs, hv, _⟩ := heach 0 (by omega)
            obtain ⟨h1, h2⟩ := cells_some hv
            have h3 := h2 0 hk2
            rw [List.getElem?_eq_getElem (by omega)] at h3
            have h4 := World.cell?_spot h3
            cases spot with
            | none => rfl
            | some s => simp [Addr.add] at h4
          subst hspot
          have hcell : ∀ (i j : Nat) (y : V), l[i]? = some y → j < P.cellsOf e → ∃ (u : Value), w.cell? ⟨b, o + (i * P.cellsOf e + j), none⟩ = some u ∧ ∃ c, y.cells[j]? = some c ∧ c.one = true ∧ Rd w (fun b => b < w.heap.size) c u := by
            intro i j y hy hj
            obtain ⟨_, vs, hv, hr⟩ := hl2 i y hy
            obtain ⟨h1, h2⟩ := cells_some hv
            have h3 := h2 j hj
            rw [Addr.add_lit, Addr.add_lit, List.getElem?_eq_getElem (by omega)] at h3
            have hyl : j < y.cells.length := by rw [← hr.1]; omega
            obtain ⟨q1, u, q2, q3⟩ := hr.2 j y.cells[j] (List.getElem?_eq_getElem hyl)
            rw [List.getElem?_eq_getElem (by omega), Option.some.injEq] at q2
            subst q2
            exact ⟨_, by rw [← Nat.add_assoc]; exact h3, _, List.getElem?_eq_getElem hyl, q1, q3⟩
          have hfit : ∀ y ∈ l, y.fits (P.cellsOf e) := fun y hy => by
            obtain ⟨i, hi⟩ := List.getElem?_of_mem hy
            obtain ⟨_, vs, hv, hr⟩ := hl2 i y hi
            refine ⟨by rw [← hr.1, (cells_some hv).1], fun c hc => ?_⟩
            obtain ⟨j, hj⟩ := List.getElem?_of_mem hc
            exact (hr.2 j c hj).1
          have hdiv : ∀ i, i < l.length * P.cellsOf e → ∃ y, l[i / P.cellsOf e]? = some y ∧ i % P.cellsOf e < P.cellsOf e ∧ i = i / P.cellsOf e * P.cellsOf e + i % P.cellsOf e := by
            intro i hi
            have h1 : i / P.cellsOf e < l.length := (Nat.div_lt_iff_lt_mul hk2).2 hi
            exact ⟨_, List.getElem?_eq_getElem h1, Nat.mod_lt _ hk2, by rw [Nat.mul_comm]; exact (Nat.div_add_mod _ _).symm⟩
          have hb : b < w.heap.size := by
            obtain ⟨y, hy⟩ : ∃ y, l[0]? = some y := ⟨_, List.getElem?_eq_getElem (by omega)⟩
            obtain ⟨u, hu, _⟩ := hcell 0 0 y hy hk2
            exact cell_lt hu
          have hsl := Rd.sl (w := w) (G := fun b => b < w.heap.size) l b o cap (P.cellsOf e) (fun i => (w.cell? ⟨b, o + i, none⟩).getD undef) (by omega) hcm hb hfit (fun i hi => ?_) (fun i c hi => ?_)
          · rw [hl1, hlen] at hsl
            exact hsl
          · obtain ⟨y, h1, h2, h3⟩ := hdiv i hi
            obtain ⟨u, hu, _⟩ := hcell _ _ y h1 h2
            rw [← h3] at hu
            rw [hu]; rfl
          · have hil : i < l.length * P.cellsOf e := by
              rw [← flat_length hfit]
              exact (List.getElem?_eq_some_iff.1 hi).1
            obtain ⟨y, h1, h2, h3⟩ := hdiv i hil
            obtain ⟨u, hu, c', hc', _, hr⟩ := hcell _ _ y h1 h2
            rw [← h3] at hu
            rw [h3, flat_at hfit h1 _ h2, hc'] at hi
            cases hi
            simp only [hu, Option.getD_some]
            exact hr
    · rename_i fs ht
      simp only [Bool.and_eq_true, List.all_eq_true] at hk
      obtain ⟨hk1, hk2⟩ := hk
      obtain ⟨xs, m, _, _, hcl, hxl, hat⟩ := DataW.trod_struct ht h
      obtain ⟨ys, hy1, hy2⟩ := choose_list (Q := fun i y => ∀ f, fs.toList[i]? = some f → tyV P n f.type y ∧ RdC w (fun b => b < w.heap.size) y.cells ((cs.drop f.offset).take (P.cellsOf f.type))) fs.toList.length (by
        intro i hi
        have hf : fs.toList[i]? = some fs.toList[i] := List.getElem?_eq_getElem hi
        have h1 := hat i fs.toList[i] (by simp)
        rw [List.getElem?_eq_getElem (by rw [hxl]; exact hi)] at h1
        obtain ⟨y, hy, hr⟩ := read_trod (hk2 _ (List.getElem_mem hi)) h1
        exact ⟨y, fun f h2 => by rw [hf] at h2; cases h2; exact ⟨hy, hr⟩⟩)
      refine ⟨.agg (flat ys), ⟨ys, rfl, hy1, fun i f y hf hy => (hy2 i y hy f hf).1⟩, ?_⟩
      have hcut := (flds_cut (cs := cs) hk1).2 hcl
      rw [List.drop_zero] at hcut
      rw [hcut]
      refine rdc_flat (by simp [hy1]) fun i y vs hy hv => ?_
      rw [List.getElem?_map, Option.map_eq_some_iff] at hv
      obtain ⟨f, hf, rfl⟩ := hv
      exact (hy2 i y hy f hf).2
    · rename_i m e ht
      simp only [Bool.and_eq_true, beq_iff_eq] at hk
      obtain ⟨hk1, hk2⟩ := hk
      obtain ⟨xs, q, _, _, hcl, hxl, hat⟩ := DataW.trod_array ht h
      obtain ⟨ys, hy1, hy2⟩ := choose_list (Q := fun i y => tyV P n e y ∧ RdC w (fun b => b < w.heap.size) y.cells ((cs.drop (i * P.cellsOf e)).take (P.cellsOf e))) m (by
        intro i hi
        have h1 := hat i hi
        rw [List.getElem?_eq_getElem (by omega)] at h1
        exact read_trod hk1 h1)
      refine ⟨.agg (flat ys), ⟨ys, rfl, hy1, fun y hy => ?_⟩, ?_⟩
      · obtain ⟨i, hi⟩ := List.getElem?_of_mem hy
        exact (hy2 i y hi).1
      · rw [arr_cut (cs := cs) (k := P.cellsOf e) (m := m) (by omega)]
        refine rdc_flat (by simp [hy1]) fun i y vs hy hv => ?_
        rw [List.getElem?_map, Option.map_eq_some_iff] at hv
        obtain ⟨j, hj, rfl⟩ := hv
        have : j = i := by
          rw [List.getElem?_eq_some_iff] at hj
          obtain ⟨_, hj⟩ := hj
          simpa using hj.symm
        subst this
        exact (hy2 j y hy).2
    · cases hk
/-- an argument -/
theorem read_arg {n : Nat} {t : TypeId} {v : Value} {d : DataW H} {ps : List MemPlace} {r : Reach} {b0 : Nat} (hk : okTy P n t = true) (hval : Value.okWide P w r b0 t v) (h : DataW.Trod enc P w 0 spare held t v d ps) :
    ∃ x, tyV P n t x ∧ Rd w (fun b => b < w.heap.size) x v := by
  obtain ⟨fuel, h⟩ := h
  obtain ⟨x, hx, hr⟩ := read_trod hk h
  refine ⟨x, hx, ?_⟩
  have h1 : ∀ {c : V}, x = c → c.cells = [c] → v.cells.toList = [v] → Rd w (fun b => b < w.heap.size) x v := by
    intro c he hc hv
    subst he
    rw [hc, hv] at hr
    obtain ⟨_, u, q1, q2⟩ := hr.2 0 x rfl
    simp at q1
    subst q1
    exact q2
  have h2 : ∀ {cs : List V} {vs : Array Value}, x = .agg cs → v = .agg vs → Rd w (fun b => b < w.heap.size) x v := by
    intro cs vs he hv
    subst he hv
    refine .agg cs vs (by have := hr.1; simpa [Value.cells] using this) (fun c hc => ?_) fun i c hi => ?_
    · obtain ⟨i, hi⟩ := List.getElem?_of_mem hc
      exact (hr.2 i c hi).1
    · obtain ⟨_, u, q1, q2⟩ := hr.2 i c hi
      have : vs.getD i undef = u := by
        have q3 : vs[i]? = some u := by simpa [Value.cells] using q1
        simp [Array.getD_eq_getD_getElem?, q3]
      rw [this]
      exact q2
  cases n with
  | zero => cases hk
  | succ n =>
    unfold okTy at hk
    unfold tyV at hx
    split at hk
    · rename_i ht
      rw [ht] at hx
      obtain ⟨b, rfl⟩ := hx
      obtain ⟨c, rfl⟩ := okWide_bool ht hval
      exact h1 rfl rfl rfl
    · rename_i k ht
      rw [ht] at hx
      obtain ⟨b, rfl, _⟩ := hx
      obtain ⟨c, rfl⟩ := okWide_int ht hval
      exact h1 rfl rfl rfl
    · rename_i ht
      rw [ht] at hx
      obtain ⟨b, rfl, _⟩ := hx
      obtain ⟨c, rfl⟩ := okWide_string ht hval
      exact h1 rfl rfl rfl
    · rename_i e ht
      rw [ht] at hx
      obtain ⟨b, rfl, _⟩ := hx
      obtain ⟨c, _, _, rfl⟩ := okWide_slice ht hval
      exact h1 rfl rfl rfl
    · rename_i fs ht
      rw [ht] at hx
      obtain ⟨b, rfl, _⟩ := hx
      simp only [Value.okWide, ht] at hval
      obtain ⟨cs, rfl, _⟩ := hval
      exact h2 rfl rfl
    · rename_i m e ht
      rw [ht] at hx
      obtain ⟨b, rfl, _⟩ := hx
      simp only [Value.okWide, ht] at hval
      obtain ⟨cs, rfl, _⟩ := hval
      exact h2 rfl rfl
    · cases hk
theorem read_args {n : Nat} {r : Reach} {b0 : Nat} : ∀ {ts : List TypeId} {vs : List Value} {ds : List (DataW H)} {ps : List MemPlace}, DataW.TrodAll enc P w 0 spare held ts vs ds ps → (∀ t ∈ ts, okTy P n t = true) →
    (∀ (j : Nat) t v, ts[j]? = some t → vs[j]? = some v → Value.okWide P w r b0 t v) →
    ∃ xs : List V, xs.length = vs.length ∧ vs.length = ts.length ∧ ds.length = ts.length ∧ (∀ (i : Nat) (t : TypeId) (x : V), ts[i]? = some t → xs[i]? = some x → tyV P n t x) ∧ ∀ (i : Nat) (x : V) (v : Value), xs[i]? = some x → vs[i]? = some v → Rd w (fun b => b < w.heap.size) x v
  | [], vs, ds, ps, h, _, _ => by
    obtain ⟨rfl, rfl, rfl⟩ := trodAll_nil h
    exact ⟨[], rfl, rfl, rfl, fun i t x h => by simp at h, fun i x v h => by simp at h⟩
  | t :: ts, vs, ds, ps, h, hk, hval => by
    obtain ⟨v, vs', d, ds', p, q, rfl, rfl, rfl, h1, h2⟩ := trodAll_cons h
    obtain ⟨x, hx1, hx2⟩ := read_arg (hk t (by simp)) (hval 0 t v rfl rfl) h1
    obtain ⟨xs, q1, q2, q5, q3, q4⟩ := read_args h2 (fun t ht => hk t (by simp [ht])) fun j t' v' ht hv => hval (j + 1) t' v' (by simpa using ht) (by simpa using hv)
    refine ⟨x :: xs, by simp [q1], by simp [q2], by simp [q5], fun i t' x' ht hx => ?_, fun i x' v' hx hv => ?_⟩
    · cases i with
      | zero => simp at ht hx; subst ht hx; exact hx1
      | succ i => exact q3 i t' x' (by simpa using ht) (by simpa using hx)
    · cases i with
      | zero => simp at hv hx; subst hv hx; exact hx2
      | succ i => exact q4 i x' v' (by simpa using hx) (by simpa using hv)
/-- below the old heap's end nothing has turned: arguments read as they did -/
theorem args_stay {W W' : World} (hl : laidOutB P = true) (hb : Below W.heap.size W W') : ∀ {ts : List TypeId} {vs : List Value} {ds : List (DataW H)} {ps : List MemPlace}, DataW.TrodAll enc P W 0 (fun _ => true) true ts vs ds ps →
    (∀ t ∈ ts, P.readableRec t = true ∧ t < P.types.size) → (∀ x ∈ ps, x.block < W.heap.size) → DataW.TrodAll enc P W' 0 (fun b => decide (b < W.heap.size)) true ts vs ds ps
  | [], vs, ds, ps, h, _, _ => by
    obtain ⟨rfl, rfl, rfl⟩ := trodAll_nil h
    exact trodAll_mk0
  | t :: ts, vs, ds, ps, h, hk, hlt => by
    obtain ⟨v, vs', d, ds', p, q, rfl, rfl, rfl, h1, h2⟩ := trodAll_cons h
    exact trodAll_cons_mk (Below.trod hl (hk t (by simp)).1 (hk t (by simp)).2 h1 hb fun x hx => hlt x (by simp [hx])) (args_stay hl hb h2 (fun t ht => hk t (by simp [ht])) fun x hx => hlt x (by simp [hx]))
end

/-- A LAW: on all values of its parameters' types it tells true. -/
theorem law_contract {P : Program} {f : FuncId} {fn : Func} {s : ChangeSpec} {tb : TypeId} (n : Nat) (hl : laidOutB P = true) (hok : (fn.params.toList.all fun t => okTy P n t) = true) (hread : (fn.params.toList.all fun t => P.readableRec t && decide (t < P.types.size)) = true)
    (hvars : s.vars = []) (hres : fn.resultTypes = #[tb]) (hb : P.underlying tb = some .bool)
    (hfn : ∀ (H : Type) (ds : List (DataW H)), ds.length = fn.params.toList.length → s.fn H ds = { results := [.lit (.bool true)], args := ds })
    (hlaw : ∀ xs : List V, xs.length = fn.params.toList.length → (∀ (i : Nat) (t : TypeId) (x : V), fn.params.toList[i]? = some t → xs[i]? = some x → tyV P n t x) → VC P f false xs (.bool true))
    (H : Type) (enc : TypeId × Value → H) (W : World) (base : Nat) (args : Array Value) (ds gs : List (DataW H)) (before : List MemPlace)
    (hval : ∀ (j : Nat) t v, fn.params[j]? = some t → args[j]? = some v → Value.okWide P W .any base t v)
    (hW : DataW.Whole enc P fn.params.toList s.vars false W args.toList ds gs before) :
    Calls P f args W fun e W' => ∃ v, e = .returned v ∧ s.post enc P fn false true false false W args v W' := by
  have hlt : ∀ x ∈ before, x.block < W.heap.size := fun x hx => by simpa using hW.lt x hx
  have hW' := hW
  obtain ⟨p, q, hA, hV, rfl, _, _⟩ := hW
  rw [hvars] at hV
  obtain ⟨rfl, rfl⟩ := trodVars_none hV
  rw [List.append_nil] at hlt hW'
  obtain ⟨xs, q1, q2, q5, q3, q4⟩ := read_args (n := n) hA (List.all_eq_true.1 hok) fun j t v ht hv => hval j t v (by simpa using ht) (by simpa using hv)
  obtain ⟨_, hvc⟩ := hlaw xs (by rw [q1, q2]) q3
  refine Calls.mono (hvc W (fun b => b < W.heap.size) args (fun b h => h) (by simpa using q1.symm) fun i x hx => ?_) fun e W' he => ?_
  · have hi : i < args.toList.length := by rw [← q1]; exact (List.getElem?_eq_some_iff.1 hx).1
    have : args.getD i undef = args.toList[i] := by
      have hi2 : i < args.size := by simpa using hi
      simp [Array.getD_eq_getD_getElem?, hi2]
    rw [this]
    exact q4 i x _ hx (List.getElem?_eq_getElem hi)
  · obtain ⟨v, rfl, hbel, hrd⟩ := he
    cases hrd
    refine ⟨_, rfl, ds, [], p, [], p, [], hW', ?_, ?_, ?_, hbel.frame _, fun h => by cases h⟩
    · rw [hfn H _ (by rw [List.append_nil]; exact q5), hres]
      exact trodAll_mk1 (shut_bool hb true)
    · rw [hfn H _ (by rw [List.append_nil]; exact q5), List.append_nil]
      exact args_stay hl hbel hA (fun t ht => by simpa using List.all_eq_true.1 hread t ht) hlt
    · rw [hvars, hfn H _ (by rw [List.append_nil]; exact q5)]
      rfl

/-! ### What lists of a type are -/
theorem list_of {α : Type} {enc : α → V} {Q : α → Prop} : ∀ {l : List V}, (∀ y ∈ l, ∃ a, y = enc a ∧ Q a) → ∃ l' : List α, l = l'.map enc ∧ ∀ a ∈ l', Q a
  | [], _ => ⟨[], rfl, by simp⟩
  | y :: l, h => by
    obtain ⟨a, rfl, ha⟩ := h y (by simp)
    obtain ⟨l', rfl, hl⟩ := list_of (l := l) fun z hz => h z (List.mem_cons_of_mem _ hz)
    exact ⟨a :: l', rfl, fun b hb => by
      rcases List.mem_cons.1 hb with rfl | hb
      · exact ha
      · exact hl b hb⟩
theorem ty_bool {P : Program} {n : Nat} {t : TypeId} {x : V} (ht : P.underlying t = some .bool) (h : tyV P (n + 1) t x) : ∃ b, x = .bool b := by
  unfold tyV at h; rw [ht] at h; exact h
theorem ty_int {P : Program} {n : Nat} {t : TypeId} {x : V} {k : IntKind} (ht : P.underlying t = some (.int k)) (h : tyV P (n + 1) t x) : ∃ m, x = .int k m ∧ k.min ≤ m ∧ m ≤ k.max := by
  unfold tyV at h; rw [ht] at h
  obtain ⟨m, rfl, hw⟩ := h
  simp only [Lit.wf, Bool.and_eq_true, decide_eq_true_eq] at hw
  exact ⟨m, rfl, hw⟩
theorem ty_str {P : Program} {n : Nat} {t : TypeId} {x : V} (ht : P.underlying t = some .string) (h : tyV P (n + 1) t x) : ∃ s, x = .str s ∧ s.size ≤ maxLen := by
  unfold tyV at h; rw [ht] at h; exact h
theorem ty_slice {P : Program} {n : Nat} {t e : TypeId} {x : V} {α : Type} {enc : α → V} {Q : α → Prop} (ht : P.underlying t = some (.slice e)) (h : tyV P (n + 1) t x) (hQ : ∀ y, tyV P n e y → ∃ a, y = enc a ∧ Q a) : ∃ l : List α, x = .sl (l.map enc) ∧ l.length ≤ maxLen ∧ ∀ a ∈ l, Q a := by
  unfold tyV at h; rw [ht] at h
  obtain ⟨l, rfl, h1, h2⟩ := h
  obtain ⟨l', rfl, h3⟩ := list_of fun y hy => hQ y (h2 y hy)
  exact ⟨l', rfl, by simpa using h1, h3⟩
theorem ty_struct {P : Program} {n : Nat} {t : TypeId} {x : V} {fs : Array Field} (ht : P.underlying t = some (.struct fs)) (h : tyV P (n + 1) t x) : ∃ ys, x = .agg (flat ys) ∧ ys.length = fs.toList.length ∧ ∀ (i : Nat) (f : Field) (y : V), fs.toList[i]? = some f → ys[i]? = some y → tyV P n f.type y := by
  unfold tyV at h; rw [ht] at h; exact h
theorem ty_array {P : Program} {n m : Nat} {t e : TypeId} {x : V} (ht : P.underlying t = some (.array m e)) (h : tyV P (n + 1) t x) : ∃ ys, x = .agg (flat ys) ∧ ys.length = m ∧ ∀ y ∈ ys, tyV P n e y := by
  unfold tyV at h; rw [ht] at h; exact h
end Vm
