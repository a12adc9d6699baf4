/-
  Operations that make a block of their own: variables, boxes; structs of parts.
-/
import Derived.Test.YtbmgnmjghhakhaaVh
namespace Vm
open Go
open Go.RowKit (Below)
set_option linter.unusedSimpArgs false
set_option linter.unusedVariables false

/-- the slot d has a new block, and no other -/
def GH.give (h : GH) (d i n : Nat) : GH := { F := h.F, bl := fun t j => if t = d then (if j = i then some n else none) else h.bl t j, K := h.K }
/-- a new block that nobody will write -/
def GH.froz (h : GH) (n : Nat) : GH := { F := fun b => h.F b ∨ b = n, bl := h.bl, K := h.K }

section
variable {c : Ctx} {B : Nat} {G : Nat → Prop} {s : St} {a : Act} {w w' : World} {h : GH} {g : Gam} {C : Conds}

theorem below_grown (hok : Ok B G w h) (hg : w.grownBy w' none) : Below B w w' := (Below.refl B w).grown hg hok.base fun k hk => by cases hk
theorem step_give (hok : Ok B G w h) (hg : w.grownBy w' none) (d i : Nat) {n : Nat} (hn : w.heap.size ≤ n) (hn' : n < w'.heap.size) :
    Ok B G w' (h.give d i n) ∧ Step B [d] [d] [] w w' h (h.give d i n) := by
  have hsz := hg.size
  refine ⟨⟨Nat.le_trans hok.base hsz, fun b hb => Nat.lt_of_lt_of_le (hok.f_lt b hb) hsz, hok.f_or, hok.g_F, fun t j b hb => ?_, fun t j u q b hb hb' => ?_, fun b hb => Nat.lt_of_lt_of_le (hok.k_lt b hb) hsz, fun t j b hb hK => ?_, hok.k_F⟩,
    below_grown hok hg, fun b hb _ => hg.block b hb (by simp), fun b hb => hb, fun t ht _ => ?_, fun t ht => ?_, fun _ _ _ _ hm => (by simp at hm), rfl⟩
  · simp only [GH.give] at hb
    split at hb
    · split at hb
      · simp only [Option.some.injEq] at hb
        subst hb
        exact ⟨Nat.le_trans hok.base hn, hn', fun hF => by have := hok.f_lt _ hF; omega⟩
      · cases hb
    · obtain ⟨h1, h2, h3⟩ := hok.b_lt t j b hb
      exact ⟨h1, Nat.lt_of_lt_of_le h2 hsz, h3⟩
  · simp only [GH.give] at hb hb'
    split at hb <;> split at hb'
    · rename_i e1 e2
      split at hb <;> first | (cases hb; done) | skip
      split at hb' <;> first | (cases hb'; done) | skip
      rename_i e3 e4
      exact ⟨e1.trans e2.symm, e3.trans e4.symm⟩
    · split at hb <;> first | (cases hb; done) | skip
      simp only [Option.some.injEq] at hb
      have := (hok.b_lt u q b hb').2.1
      omega
    · split at hb' <;> first | (cases hb'; done) | skip
      simp only [Option.some.injEq] at hb'
      have := (hok.b_lt t j b hb).2.1
      omega
    · exact hok.inj t j u q b hb hb'
  · simp only [GH.give] at hb
    split at hb
    · split at hb
      · simp only [Option.some.injEq] at hb
        subst hb
        have := hok.k_lt _ hK
        omega
      · cases hb
    · exact hok.k_bl t j b hb hK
  · have : t ≠ d := by simpa using ht
    funext j
    simp [GH.give, this]
  · have : t ≠ d := by simpa using ht
    simp [GH.give, this]
theorem step_froz (hok : Ok B G w h) (hg : w.grownBy w' none) (ps rb : List Nat) {n : Nat} (hn : w.heap.size ≤ n) (hn' : n < w'.heap.size) :
    Ok B G w' (h.froz n) ∧ Step B ps rb [] w w' h (h.froz n) := by
  have hsz := hg.size
  refine ⟨⟨Nat.le_trans hok.base hsz, fun b hb => ?_, fun b hb => ?_, fun b hb => .inl (hok.g_F b hb), fun t j b hb => ?_, hok.inj, fun b hb => Nat.lt_of_lt_of_le (hok.k_lt b hb) hsz, hok.k_bl, fun b hb => ?_⟩,
    below_grown hok hg, fun b hb _ => hg.block b hb (by simp), fun b hb => .inl hb, fun t ht _ => rfl, fun t ht => rfl, fun _ _ _ _ hm => (by simp at hm), rfl⟩
  · rcases hb with hb | rfl
    · exact Nat.lt_of_lt_of_le (hok.f_lt b hb) hsz
    · exact hn'
  · rcases hb with hb | rfl
    · exact hok.f_or b hb
    · exact .inr (Nat.le_trans hok.base hn)
  · obtain ⟨h1, h2, h3⟩ := hok.b_lt t j b hb
    refine ⟨h1, Nat.lt_of_lt_of_le h2 hsz, fun hF => ?_⟩
    rcases hF with hF | rfl
    · exact h3 hF
    · omega
  · rcases hb with hb | rfl
    · exact hok.k_F b hb
    · exact .inr fun hK => by have := hok.k_lt _ hK; omega
theorem same_grown (hok : Ok B G w h) (hg : w.grownBy w' none) {G' : Nat → Prop} (hlt : ∀ b, G' b → b < w.heap.size) : Same G' w w' := fun b hb => hg.block b (hlt b hb) (by simp)
theorem ext_lt (hok : Ok B G w h) (sh : List Nat) : ∀ b, h.ext sh b → b < w.heap.size := by
  intro b hb
  rcases hb with hb | ⟨p, _, i, hi⟩
  · exact hok.f_lt b hb
  · exact (hok.b_lt p (i + 1) b hi).2.1

/-! ### New variables -/
theorem mapM_some {α β : Type} {f : α → Option β} : ∀ {l : List α} {r : List β}, l.mapM f = some r → r.length = l.length ∧ ∀ (i : Nat) (v : α), l[i]? = some v → ∃ x, r[i]? = some x ∧ f v = some x
  | [], r, hm => by
    simp at hm; subst hm; exact ⟨rfl, fun i v hi => by simp at hi⟩
  | y :: l, r, hm => by
    rw [List.mapM_cons] at hm
    simp only [Option.bind_eq_bind, Option.bind_eq_some_iff, Option.pure_def, Option.some.injEq] at hm
    obtain ⟨x, hx, xs, hxs, rfl⟩ := hm
    obtain ⟨h1, h2⟩ := mapM_some hxs
    refine ⟨by simp [h1], fun i v hi => ?_⟩
    cases i with
    | zero => simp at hi; subst hi; exact ⟨x, by simp, hx⟩
    | succ i => simpa using h2 i v (by simpa using hi)
theorem zeroCells_some {P : Program} {T : TypeId} {zs : List V} (hz : zeroCells P T = some zs) : ∃ i z, P.info? T = some i ∧ i.zero = some z ∧ z.cells.size = zs.length ∧ ∀ (j : Nat) (v : Value), z.cells[j]? = some v → ∃ x, zs[j]? = some x ∧ cellV v = some x := by
  unfold zeroCells at hz
  simp only [Option.bind_eq_some_iff] at hz
  obtain ⟨z, ⟨i, hi, hz0⟩, hm⟩ := hz
  obtain ⟨h1, h2⟩ := mapM_some hm
  exact ⟨i, z, hi, hz0, by simpa using h1.symm, fun j v hj => h2 j v (by simpa using hj)⟩
theorem run_zeroValue {P : Program} {T : TypeId} {i : TypeInfo} {z : Value} (hi : P.info? T = some i) (hz : i.zero = some z) (w : World) : (zeroValue T).run P w = .ok z w := by
  simp [zeroValue, typeInfo, hi, hz]
theorem run_newVar {P : Program} {T : TypeId} (v : Value) (w : World) : (newVar T v).run P w = .ok ⟨w.heap.size, 0, none⟩ (w.alloc (.cells v.cells T)) := by
  simp [newVar, newRow]
/-- a cell of a zero value -/
def zeroCK (x : V) : CK := match x with | .sl _ => CK.nil | _ => .fz
theorem zero_rel {P : Program} {o : Option Nat} {v : Value} {x : V} (hv : cellV v = some x) : RelC P B s w h o (zeroCK x) (.c x) v := by
  unfold cellV at hv
  split at hv <;> first
    | (simp only [Option.some.injEq] at hv; subst hv; first | exact ⟨_, rfl, rfl, .int _ _⟩ | exact ⟨_, rfl, rfl, .bool _⟩ | exact ⟨_, rfl, rfl, .str _⟩ | exact ⟨rfl, rfl⟩ | exact ⟨_, rfl, rfl, .nomp⟩)
    | (split at hv <;> first
        | (rename_i hs
           simp only [Option.some.injEq] at hv; subst hv
           rw [Array.eq_empty_of_size_eq_zero hs.1, Array.eq_empty_of_size_eq_zero hs.2]; exact ⟨_, rfl, rfl, .fn _⟩)
        | simp at hv)
    | simp at hv

theorem pkAlloc_run (hok : Ok B G w h) {T : TypeId} {k : TK} {es : List E} (hp : pkAlloc c T = some (k, es)) (tm : Nat → Option Value) (d : Nat) :
    ∃ v w', (Instr.alloc T true (.tuple #[])).run c.P w = .ok v w' ∧ PRes c B G s w h tm d k v w' := by
  unfold pkAlloc at hp
  simp only [Option.bind_eq_some_iff] at hp
  obtain ⟨zs, hz, hp⟩ := hp
  split at hp
  · simp at hp
  · simp only [Option.some.injEq, Prod.mk.injEq] at hp
    obtain ⟨rfl, rfl⟩ := hp
    obtain ⟨i, z, hi, hz0, hsz, hcells⟩ := zeroCells_some hz
    have hg := World.grownBy_alloc w (.cells z.cells T) none
    obtain ⟨hok', hst⟩ := step_give hok hg d 0 (n := w.heap.size) (Nat.le_refl _) (by simp)
    refine ⟨.pointer (some ⟨w.heap.size, 0, none⟩), _, ?_, _, hst, hok', ?_⟩
    · simp [Instr.alloc, run_zeroValue hi hz0, run_newVar]
    · refine ⟨w.heap.size, z.cells, T, by simp [GH.give], rfl, heap_alloc_new w _, by simpa using hsz, fun j ck hj => ?_⟩
      simp only [List.getElem?_map, Option.map_eq_some_iff] at hj
      obtain ⟨x, hx, rfl⟩ := hj
      have hlt : j < z.cells.size := by rw [hsz]; exact (List.getElem?_eq_some_iff.1 hx).1
      obtain ⟨x', hx', hc⟩ := hcells j z.cells[j] (Array.getElem?_eq_getElem hlt)
      rw [hx] at hx'; cases hx'
      have : z.cells.getD j undef = z.cells[j] := by simp [hlt]
      rw [this]
      exact zero_rel hc

theorem pkBox_run (hr : RelG c B G s a w h g) (hC : holds s (ixC c C)) {T : TypeId} {x : Operand} {k : TK} {es : List E} (hp : pkBox c g C T x = some (k, es)) (hes : ∀ e ∈ es, ∃ z, eval s e = some z) (tm : Nat → Option Value) (d : Nat) :
    ∃ v w', (Instr.box T (a.eval x)).run c.P w = .ok v w' ∧ PRes c B G s w h tm d k v w' := by
  unfold pkBox at hp
  split at hp
  · rename_i e0 hk
    split at hp
    · rename_i hokT
      obtain ⟨y, hy, hrd⟩ := opK_val_rd hr hC hk
      have hg := World.grownBy_alloc w (.cells (a.eval x).cells T) none
      obtain ⟨hok', hst⟩ := step_give hr.ok hg d 0 (n := w.heap.size) (Nat.le_refl _) (by simp)
      have hF : Same h.F w (w.alloc (.cells (a.eval x).cells T)) := same_grown hr.ok hg hr.ok.f_lt
      refine ⟨.pointer (some ⟨w.heap.size, 0, none⟩), _, by simp [Instr.box, run_newVar], _, hst, hok', ?_⟩
      generalize a.eval x = v at *
      split at hp
      · rename_i hag
        simp only [hag, Option.some.injEq, Prod.mk.injEq] at hp
        obtain ⟨rfl, rfl⟩ := hp
        obtain ⟨z, hz⟩ := hes _ (List.Mem.head _)
        obtain ⟨h1, h2, h3, _⟩ := tyE_eval hz
        rw [hy] at h1; cases h1
        obtain ⟨hs1, hs2, hs3⟩ := hrd.cells h2
        refine ⟨w.heap.size, v.cells, T, by simp [GH.give], rfl, heap_alloc_new w _, by rw [hs1, h3 rfl]; simp, fun j ck hj => ?_⟩
        simp only [List.getElem?_map, Option.map_eq_some_iff] at hj
        obtain ⟨j', hj', rfl⟩ := hj
        have hlt : j < c.P.cellsOf T := by simpa using (List.getElem?_eq_some_iff.1 hj').1
        have hj2 : j' = j := by simpa [hlt] using hj'.symm
        subst hj2
        have hlt2 : j' < y.cells.length := by rw [h3 rfl]; exact hlt
        have hget : y.cells[j']? = some y.cells[j'] := List.getElem?_eq_getElem hlt2
        refine ⟨y.cells[j'], ?_, hs2 _ (List.getElem_mem _), (hs3 j' _ hget).F.keep hF fun b hb => hb⟩
        have hpc : y.pc = y.cells := by cases y <;> first | rfl | exact absurd rfl (h2 _)
        simp only [eval, hz, Option.bind_some, fldV, hpc, hget]
        unfold oneV
        rw [if_pos (hs2 _ (List.getElem_mem _))]
      · rename_i hag
        have hag' : isAggT c.P T = false := by simpa using hag
        simp only [hag', Option.some.injEq, Prod.mk.injEq] at hp
        obtain ⟨rfl, rfl⟩ := hp
        obtain ⟨z, hz⟩ := hes _ (List.Mem.head _)
        obtain ⟨h1, h2, _, h3⟩ := tyE_eval hz
        rw [hy] at h1; cases h1
        obtain ⟨hs1, hs2, hs3⟩ := hrd.cells h2
        have hyc := one_cells (h3 rfl)
        rw [hyc] at hs1 hs3
        refine ⟨w.heap.size, v.cells, T, by simp [GH.give], rfl, heap_alloc_new w _, by rw [hs1]; rfl, fun j ck hj => ?_⟩
        cases j with
        | zero =>
          simp at hj
          subst hj
          exact ⟨y, hz, h3 rfl, (hs3 0 y rfl).F.keep hF fun b hb => hb⟩
        | succ j => simp at hj
    · simp at hp
  · simp at hp

/-! ### Parts put into an aggregate -/
theorem setAll_spec (off : Nat) : ∀ (l : List (Value × Nat)) (cs : Array Value) (m : Nat), (∀ (i : Nat) (q : Value × Nat), l[i]? = some q → q.2 = m + i) → off + m + l.length ≤ cs.size →
    (l.foldl (fun cs (c, j) => cs.setIfInBounds (off + j) c) cs).size = cs.size ∧
    (∀ x, x < off + m ∨ off + m + l.length ≤ x → (l.foldl (fun cs (c, j) => cs.setIfInBounds (off + j) c) cs)[x]? = cs[x]?) ∧
    ∀ (i : Nat) (q : Value × Nat), l[i]? = some q → (l.foldl (fun cs (c, j) => cs.setIfInBounds (off + j) c) cs)[off + m + i]? = some q.1
  | [], cs, m, _, _ => ⟨rfl, fun _ _ => rfl, fun i q hi => by simp at hi⟩
  | (v, j) :: l, cs, m, hidx, hle => by
    have hj : j = m := hidx 0 (v, j) rfl
    subst hj
    have hl' : ∀ (i : Nat) (q : Value × Nat), l[i]? = some q → q.2 = (j + 1) + i := fun i q hi => by
      have := hidx (i + 1) q (by simpa using hi); omega
    simp only [List.length_cons] at hle
    obtain ⟨h1, h2, h3⟩ := setAll_spec off l (cs.setIfInBounds (off + j) v) (j + 1) hl' (by simp; omega)
    simp only [List.foldl_cons]
    refine ⟨by rw [h1]; simp, fun x hx => ?_, fun i q hi => ?_⟩
    · rw [h2 x (by simp only [List.length_cons] at hx; omega), Array.getElem?_setIfInBounds_ne (by simp only [List.length_cons] at hx; omega)]
    · cases i with
      | zero =>
        simp at hi; subst hi
        rw [Nat.add_zero, h2 (off + j) (by omega)]
        have : off + j < cs.size := by omega
        simp [this]
      | succ i =>
        have := h3 i q (by simpa using hi)
        rw [show off + j + (i + 1) = off + (j + 1) + i from by omega]
        exact this
theorem setAll_cells (off : Nat) (v : Value) (cs : Array Value) (hle : off + v.cells.size ≤ cs.size) :
    (v.cells.zipIdx.foldl (fun cs (c, j) => cs.setIfInBounds (off + j) c) cs).size = cs.size ∧
    (∀ x, x < off ∨ off + v.cells.size ≤ x → (v.cells.zipIdx.foldl (fun cs (c, j) => cs.setIfInBounds (off + j) c) cs)[x]? = cs[x]?) ∧
    ∀ i, i < v.cells.size → (v.cells.zipIdx.foldl (fun cs (c, j) => cs.setIfInBounds (off + j) c) cs)[off + i]? = v.cells[i]? := by
  have hz : ∀ (i : Nat) (q : Value × Nat), v.cells.zipIdx.toList[i]? = some q → v.cells[i]? = some q.1 ∧ q.2 = 0 + i := by
    intro i q hi
    rw [Array.getElem?_toList, Array.getElem?_zipIdx, Option.map_eq_some_iff] at hi
    obtain ⟨u, hu, rfl⟩ := hi
    exact ⟨hu, by omega⟩
  have hlen : v.cells.zipIdx.toList.length = v.cells.size := by simp
  rw [← Array.foldl_toList]
  obtain ⟨h1, h2, h3⟩ := setAll_spec off v.cells.zipIdx.toList cs 0 (fun i q hi => (hz i q hi).2) (by rw [hlen]; omega)
  refine ⟨h1, fun x hx => h2 x (by rw [hlen]; omega), fun i hi => ?_⟩
  have hq : v.cells.zipIdx.toList[i]? = some (v.cells[i], 0 + i) := by
    rw [Array.getElem?_toList, Array.getElem?_zipIdx]; simp [hi]
  have := h3 i _ hq
  rw [Nat.add_zero] at this
  rw [this]; simp [hi]

/-- place by place: what a part puts there stays, if no later part is put over it -/
theorem fill_spec (place : Nat → Option (Nat × Nat)) : ∀ (parts : List (Nat × Value)) (cs : Array Value), (∀ p ∈ parts, ∃ off, place p.1 = some (off, p.2.cells.size) ∧ off + p.2.cells.size ≤ cs.size) →
    ∃ R, Instr.fill place cs parts = some R ∧ R.size = cs.size ∧
      (∀ x, (∀ p ∈ parts, ∀ off n, place p.1 = some (off, n) → x < off ∨ off + n ≤ x) → R[x]? = cs[x]?) ∧
      ∀ pre p suf, parts = pre ++ p :: suf → ∀ off, place p.1 = some (off, p.2.cells.size) → (∀ q ∈ suf, ∀ o n, place q.1 = some (o, n) → off + p.2.cells.size ≤ o ∨ o + n ≤ off) → ∀ j, j < p.2.cells.size → R[off + j]? = p.2.cells[j]?
  | [], cs, _ => ⟨cs, rfl, rfl, fun _ _ => rfl, fun pre p suf hp => by simp at hp⟩
  | (i, v) :: parts, cs, hall => by
    obtain ⟨off, hpl, hle⟩ := hall (i, v) (by simp)
    simp only at hpl hle
    obtain ⟨h1, h2, h3⟩ := setAll_cells off v cs hle
    obtain ⟨R, hR, hsz, hout, hin⟩ := fill_spec place parts (v.cells.zipIdx.foldl (fun cs (c, j) => cs.setIfInBounds (off + j) c) cs) (fun p hp => by rw [h1]; exact hall p (by simp [hp]))
    refine ⟨R, ?_, by rw [hsz, h1], fun x hx => ?_, fun pre p suf hp off' hpl' hsuf j hj => ?_⟩
    · have : ¬ (off + v.cells.size > cs.size) := by omega
      simp only [Instr.fill, hpl]
      simp only [ne_eq, not_true_eq_false, decide_false, Bool.false_or, this, decide_false, Bool.false_eq_true, if_false]
      exact hR
    · rw [hout x fun p hp => hx p (by simp [hp])]
      exact h2 x (hx (i, v) (by simp) off _ hpl)
    · cases pre with
      | nil =>
        simp only [List.nil_append, List.cons.injEq] at hp
        obtain ⟨rfl, rfl⟩ := hp
        simp only at hpl' hj hsuf ⊢
        rw [hpl] at hpl'
        simp only [Option.some.injEq, Prod.mk.injEq] at hpl'
        obtain ⟨rfl, _⟩ := hpl'
        rw [hout (off + j) fun q hq o n hq' => by have := hsuf q hq o n hq'; omega]
        exact h3 j hj
      | cons y pre =>
        simp only [List.cons_append, List.cons.injEq] at hp
        obtain ⟨rfl, hp⟩ := hp
        exact hin pre p suf hp off' hpl' hsuf j hj
end
end Vm
