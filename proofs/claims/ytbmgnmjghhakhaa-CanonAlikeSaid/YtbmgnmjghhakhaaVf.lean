/-
  Operations that write nothing but their own temporary: each comes to its kind.
-/
import Derived.Test.YtbmgnmjghhakhaaVe
namespace Vm
open Go
open Go.RowKit (Below)
set_option linter.unusedSimpArgs false
set_option linter.unusedVariables false
section
variable {c : Ctx} {B : Nat} {G : Nat → Prop} {s : St} {a : Act} {w : World} {h : GH} {g : Gam} {C : Conds}

/-- it runs, and its value is of the kind -/
def Has (c : Ctx) (B : Nat) (s : St) (w : World) (h : GH) (tm : Nat → Option Value) (d : Nat) (k : TK) (m : Sem Value) : Prop :=
  ∃ v, m.run c.P w = .ok v w ∧ RelK c.P B s w h tm d v k

theorem fldV_some {x z : V} {o : Nat} (h : fldV x o = some z) : x.pc[o]? = some z := by
  unfold fldV at h
  rw [Option.bind_eq_some_iff] at h
  obtain ⟨y, h1, h2⟩ := h
  rw [h1, (oneV_some h2).1]
theorem fldsV_some {x z : V} {o n : Nat} (h : fldsV x o n = some z) : o + n ≤ x.pc.length ∧ z = .agg ((x.pc.drop o).take n) := by
  unfold fldsV at h
  split at h
  · simp only [Option.some.injEq] at h; exact ⟨by assumption, h.symm⟩
  · simp at h

/-- cells at an address, read as a tree's: one of them, or some as an aggregate -/
theorem load_pc {T : TypeId} (hT : okT c.P T = true) {x : V} {b q o : Nat} {vs : Nat → Value} {sh : List Nat} (hone : ∀ y ∈ x.pc, y.one = true)
    (hcell : ∀ i, i < x.pc.length → w.cell? ⟨b, q + i, none⟩ = some (vs i)) (hrd : ∀ i y, x.pc[i]? = some y → Rd w (h.ext sh) y (vs i)) {e : E} (he : eval s e = some x)
    (hev : ∃ z, eval s (if isAggT c.P T then .flds e o (c.P.cellsOf T) else .fld e o) = some z) (tm : Nat → Option Value) (d : Nat) :
    Has c B s w h tm d (.val (if isAggT c.P T then .flds e o (c.P.cellsOf T) else .fld e o) sh) (Instr.loadAt T (.pointer (some ⟨b, q + o, none⟩))) := by
  obtain ⟨z, hz⟩ := hev
  cases hag : isAggT c.P T with
  | false =>
    rw [hag] at hz
    simp only [Bool.false_eq_true, if_false, eval, he, Option.bind_some] at hz ⊢
    have hz' := fldV_some hz
    have hlt := (List.getElem?_eq_some_iff.1 hz').1
    exact ⟨vs o, run_load1 hT hag (hcell o hlt), z, by simp only [eval, he, Option.bind_some]; exact hz, hrd o z hz'⟩
  | true =>
    rw [hag] at hz
    simp only [if_true, eval, he, Option.bind_some] at hz ⊢
    obtain ⟨hle, rfl⟩ := fldsV_some hz
    have hlen : ((x.pc.drop o).take (c.P.cellsOf T)).length = c.P.cellsOf T := by simp; omega
    refine ⟨.agg ((List.range (c.P.cellsOf T)).map fun i => vs (o + i)).toArray, run_loadN hT hag _ (by simp) (fun i u hi => ?_), _, by simp only [eval, he, Option.bind_some]; exact hz, ?_⟩
    · have hlt : i < c.P.cellsOf T := by simpa using (List.getElem?_eq_some_iff.1 hi).1
      have : vs (o + i) = u := by simpa [hlt] using hi
      rw [← this, Nat.add_assoc]
      exact hcell (o + i) (by omega)
    · refine .agg _ _ (by simp only [List.size_toArray, List.length_map, List.length_range, hlen]) (fun y hy => hone y (List.mem_of_mem_drop (List.mem_of_mem_take hy))) fun i y hi => ?_
      have hlt : i < c.P.cellsOf T := by have := (List.getElem?_eq_some_iff.1 hi).1; omega
      rw [List.getElem?_take, if_pos hlt, List.getElem?_drop] at hi
      have : ((List.range (c.P.cellsOf T)).map fun i => vs (o + i)).toArray.getD i undef = vs (o + i) := by
        simp [Array.getD_eq_getD_getElem?, hlt]
      rw [this]
      exact hrd (o + i) y hi

/-- what is read of a type without lists shares with nobody -/
theorem Rd.flatAll {G' G'' : Nat → Prop} {x : V} {v : Value} (hx : Rd w G' x v) (hf : ∀ y ∈ x.cells, y.flatc = true) (ht : ∀ l, x ≠ .tup l) : Rd w G'' x v := by
  cases hx with
  | agg cs vs h1 h2 h3 => exact .agg cs vs h1 h2 fun i y hi => (h3 i y hi).flat (hf y (List.mem_of_getElem? hi))
  | tup l vs h1 h2 => exact absurd rfl (ht l)
  | int k n => exact .int _ _
  | bool b => exact .bool _
  | str b => exact .str _
  | nil a cap hc => exact .nil _ _ hc
  | sl l b o cap k vs h1 h2 h3 h4 h5 h6 => exact absurd (hf (.sl l) (by simp [V.cells])) (by simp [V.flatc])
  | ptr cs b o vs h1 h2 h3 h4 => exact absurd (hf (.ptr cs) (by simp [V.cells])) (by simp [V.flatc])
  | fn f => exact .fn f
  | nomp => exact .nomp
  | mp id ks xs b clk es h0 h1 h2 h3 h4 h5 h6 => exact absurd (hf (.mp id ks xs) (by simp [V.cells])) (by simp [V.flatc])

theorem opK_case (hr : RelG c B G s a w h g) (hC : holds s (ixC c C)) {x : Operand} {k : TK} (hx : opK g C x = k) (hk : k.isNo = false) :
    ((∃ e, k = .val e []) ∨ k = .nil) ∨ ∃ t, x = .tmp t ∧ (∃ v, a.tmps[t]? = some v ∧ a.eval x = v ∧ RelK c.P B s w h (fun p => a.tmps[p]?) t v k) ∧ (g.at t).2 = k ∧ condsIn (g.at t).1 C = true := by
  rcases opK_tmp hr hC hx hk with ⟨v, rfl⟩ | ⟨t, rfl, hl, v, hv, hev, hrel⟩ | ⟨f, _, hf⟩
  rotate_left 2
  · exact .inl (.inl ⟨_, hf.symm⟩)
  · left
    simp only [opK] at hx
    split at hx
    · exact .inr hx.symm
    · split at hx
      · exact .inl ⟨_, hx.symm⟩
      · subst hx; simp [TK.isNo] at hk
    · rename_i heq; simp at heq
    · rename_i heq; simp at heq
    · subst hx; simp [TK.isNo] at hk
  · obtain ⟨h1, h2⟩ := look_some hl hk
    exact .inr ⟨t, rfl, ⟨v, hv, hev, hrel⟩, h1, h2⟩

theorem RelK.moved {tm : Nat → Option Value} {t d : Nat} {v : Value} {k : TK} (hk : RelK c.P B s w h tm t v k) (hf : k.free = true) : RelK c.P B s w h tm d v k := by
  cases k <;> first | exact hk | simp [TK.free] at hf
theorem opK_rel (hr : RelG c B G s a w h g) (hC : holds s (ixC c C)) {x : Operand} {k : TK} (hx : opK g C x = k) (hf : k.free = true) (d : Nat) :
    RelK c.P B s w h (fun p => a.tmps[p]?) d (a.eval x) k := by
  have hn : k.isNo = false := by cases k <;> first | rfl | simp [TK.free] at hf
  rcases opK_case hr hC hx hn with (⟨e, rfl⟩ | rfl) | ⟨t, rfl, ⟨v, hv, hev, hrel⟩, _⟩
  · obtain ⟨y, hy, hrd⟩ := opK_val_rd hr hC hx
    exact ⟨y, hy, hrd⟩
  · exact opK_nil hr hC hx
  · rw [hev]; exact hrel.moved hf

theorem pkMove_rel (hr : RelG c B G s a w h g) (hC : holds s (ixC c C)) {x : Operand} {k : TK} {es : List E} (hp : pkMove g C x = some (k, es)) (d : Nat) :
    RelK c.P B s w h (fun p => a.tmps[p]?) d (a.eval x) k := by
  unfold pkMove at hp
  split at hp
  · rename_i hf
    simp only [Option.some.injEq, Prod.mk.injEq] at hp
    obtain ⟨rfl, rfl⟩ := hp
    exact opK_rel hr hC rfl hf d
  · split at hp
    · rename_i t ty e _ hk
      simp only [Option.some.injEq, Prod.mk.injEq] at hp
      obtain ⟨rfl, rfl⟩ := hp
      obtain ⟨v, hv, _⟩ := hr.look hC (show look g C t = _ from hk) rfl
      rw [Act.eval_tmp a t v hv]
      exact hv
    · rename_i t cs _ hk
      simp only [Option.some.injEq, Prod.mk.injEq] at hp
      obtain ⟨rfl, rfl⟩ := hp
      obtain ⟨v, hv, ⟨b, vs, T, h1, h2, _⟩, _⟩ := hr.look hC (show look g C t = _ from hk) rfl
      rw [Act.eval_tmp a t v hv]
      exact ⟨b, h1, h2⟩
    · rename_i t cs _ hk
      simp only [Option.map_eq_some_iff] at hp
      obtain ⟨⟨e, sh⟩, he, hp⟩ := hp
      simp only [Prod.mk.injEq] at hp
      obtain ⟨rfl, rfl⟩ := hp
      obtain ⟨v, hv, hrel, _⟩ := hr.look hC (show look g C t = _ from hk) rfl
      rw [Act.eval_tmp a t v hv]
      exact asE_rd hr hv hrel he
    · simp at hp

theorem flE_rd {fl : Bool} {b : E × List Nat} {v : Value} {y : V} (he : eval s b.1 = some y) (hrd : Rd w (h.ext b.2) y v) (hs : ∃ z, eval s (flE fl b).1 = some z) :
    ∃ z, eval s (flE fl b).1 = some z ∧ Rd w (h.ext (flE fl b).2) z v := by
  obtain ⟨z, hz⟩ := hs
  unfold flE at hz ⊢
  split
  · rename_i hb
    exact ⟨y, he, hrd⟩
  · split
    · rename_i hb hfl
      simp only [hb, hfl, Bool.false_eq_true, if_false, if_true, eval, he, Option.bind_some] at hz
      refine ⟨z, by simp only [eval, he, Option.bind_some]; exact hz, ?_⟩
      unfold flV at hz
      split at hz
      · simp at hz
      · rename_i ht
        split at hz
        · rename_i hall
          simp only [Option.some.injEq] at hz
          subst hz
          exact hrd.flatAll (fun y hy => by simpa using List.all_eq_true.1 hall y hy) fun l hl => ht l hl
        · simp at hz
    · exact ⟨y, he, hrd⟩

theorem pkAssign_rel (hr : RelG c B G s a w h g) (hC : holds s (ixC c C)) {ty : TypeId} {x : Operand} {k : TK} {es : List E} (hp : pkAssign c g C ty x = some (k, es)) (hes : ∀ e ∈ es, ∃ z, eval s e = some z) (d : Nat) :
    RelK c.P B s w h (fun p => a.tmps[p]?) d (a.eval x) k := by
  unfold pkAssign at hp
  split at hp
  · rename_i e hk
    simp only [Option.some.injEq, Prod.mk.injEq] at hp
    obtain ⟨rfl, rfl⟩ := hp
    exact opK_rel hr hC hk rfl d
  · rename_i e p sh hk
    split at hp
    · simp only [Option.some.injEq, Prod.mk.injEq] at hp
      obtain ⟨rfl, rfl⟩ := hp
      obtain ⟨y, hy, hrd⟩ := opK_val_rd hr hC hk
      have := flE_rd (s := s) (w := w) (h := h) (fl := true) (b := (e, p :: sh)) hy hrd (by simpa [flE] using hes (.fl e) (by simp))
      obtain ⟨z, hz, hzr⟩ := this
      exact ⟨z, by simpa [flE] using hz, by simpa [flE] using hzr⟩
    · simp at hp
  · rename_i hk
    simp only [Option.some.injEq, Prod.mk.injEq] at hp
    obtain ⟨rfl, rfl⟩ := hp
    exact opK_rel hr hC hk rfl d
  · rename_i f caps hk
    simp only [Option.some.injEq, Prod.mk.injEq] at hp
    obtain ⟨rfl, rfl⟩ := hp
    exact opK_rel hr hC hk rfl d
  · simp at hp

theorem pkNilCheck_run (hr : RelG c B G s a w h g) (hC : holds s (ixC c C)) {x : Operand} {k : TK} {es : List E} (hp : pkNilCheck g C x = some (k, es)) (o : Oper) (ho : o.op = .nilCheck x) (d : Nat) :
    ∃ v, (execOp a.eval o).run c.P w = .ok (.value v) w ∧ RelK c.P B s w h (fun p => a.tmps[p]?) d v k := by
  unfold execOp
  simp only [ho]
  unfold pkNilCheck at hp
  split at hp
  · rename_i cs hk
    simp only [Option.some.injEq, Prod.mk.injEq] at hp
    obtain ⟨rfl, rfl⟩ := hp
    obtain ⟨t, rfl, ⟨v, hv, hev, ⟨b, vs, T, h1, rfl, _⟩⟩, _⟩ := (opK_case hr hC hk rfl).resolve_left (by rintro (⟨e, h⟩ | h) <;> cases h)
    rw [hev]
    exact ⟨_, rfl, b, h1, rfl⟩
  · rename_i p q hk
    simp only [Option.some.injEq, Prod.mk.injEq] at hp
    obtain ⟨rfl, rfl⟩ := hp
    obtain ⟨b, h1, h2⟩ := opK_rel hr hC hk rfl d
    rw [h2]
    exact ⟨_, rfl, b, h1, rfl⟩
  · rename_i e sh hk
    simp only [Option.some.injEq, Prod.mk.injEq] at hp
    obtain ⟨rfl, rfl⟩ := hp
    obtain ⟨y, hy, hrd⟩ := opK_val_rd hr hC hk
    generalize a.eval x = v at hrd
    cases hrd with
    | int k n => exact ⟨_, rfl, _, hy, .int _ _⟩
    | bool b => exact ⟨_, rfl, _, hy, .bool _⟩
    | str b => exact ⟨_, rfl, _, hy, .str _⟩
    | nil q cap hc => exact ⟨_, rfl, _, hy, .nil _ _ hc⟩
    | sl l b o cap k vs h1 h2 h3 h4 h5 h6 => exact ⟨_, rfl, _, hy, .sl l b o cap k vs h1 h2 h3 h4 h5 h6⟩
    | agg cs vs h1 h2 h3 => exact ⟨_, rfl, _, hy, .agg cs vs h1 h2 h3⟩
    | tup l vs h1 h2 => exact ⟨_, rfl, _, hy, .tup l vs h1 h2⟩
    | ptr cs b o vs h1 h2 h3 h4 => exact ⟨_, rfl, _, hy, .ptr cs b o vs h1 h2 h3 h4⟩
    | fn f => exact ⟨_, rfl, _, hy, .fn f⟩
    | nomp => exact ⟨_, rfl, _, hy, .nomp⟩
    | mp id ks xs b clk es h0 h1 h2 h3 h4 h5 h6 => exact ⟨_, rfl, _, hy, .mp id ks xs b clk es h0 h1 h2 h3 h4 h5 h6⟩
  · simp at hp

/-! ### Loads -/
theorem loadM_run (hr : RelG c B G s a w h g) {T : TypeId} (hT : okT c.P T = true) {p o : Nat} {k : TK} (hl : loadM c g T p o = some k) {b : Nat} (hb : h.bl p 0 = some b) (d : Nat) :
    Has c B s w h (fun p => a.tmps[p]?) d k (Instr.loadAt T (.pointer (some ⟨b, o, none⟩))) := by
  unfold loadM at hl
  simp only [Option.bind_eq_some_iff] at hl
  obtain ⟨cs, hm, hl⟩ := hl
  obtain ⟨b', vs, ty, h1, _, hh, hcs⟩ := hr.memOf hm
  rw [hb] at h1; cases h1
  split at hl
  · rename_i hag
    split at hl
    · rename_i hcond
      obtain ⟨hn, hd, h0⟩ := hcond
      simp only [Option.some.injEq] at hl
      obtain ⟨x, hx, hxl, hone, hrd, hvs⟩ := hcs.part_rd hn hd (G' := h.ext (if anyOwn ((cs.drop o).take (c.P.cellsOf T)) = true then [p] else [])) (fun b hb => GH.ext_F hb) (fun ho i b hb => by rw [if_pos ho]; exact .inr ⟨p, by simp, i, hb⟩)
      refine ⟨_, run_loadN hT hag ((vs.toList.drop o).take (c.P.cellsOf T)) ?_ (fun i u hi => ?_), ?_⟩
      · have h2 := hcs.1
        simp only [List.length_take, List.length_drop, Array.length_toList] at hn ⊢
        omega
      · rw [cell_of_row w b (o + i) vs ty (0, 0) hh]; exact hvs i u hi
      · rw [← hl]
        refine ⟨.agg x, ?_, hrd⟩
        split
        · rename_i hp
          exact eval_run hp (by rw [hn]; exact h0) hx hone
        · exact hx
    · simp at hl
  · rename_i hag
    have hag' : isAggT c.P T = false := by simpa using hag
    split at hl
    · rename_i e hc
      simp only [Option.some.injEq] at hl
      obtain ⟨x, hx, h1, hrd⟩ := hcs.2 o _ hc
      have hlt : o < vs.size := by rw [hcs.1]; exact (List.getElem?_eq_some_iff.1 hc).1
      refine ⟨vs.getD o undef, run_load1 hT hag' (by rw [cell_of_row w b o vs ty (0, 0) hh]; simp [Array.getD_eq_getD_getElem?, hlt]), ?_⟩
      rw [← hl]
      exact ⟨x, hx, hrd.mono fun b hb => GH.ext_F hb⟩
    · rename_i ty' e hc
      simp only [Option.some.injEq] at hl
      have hlt : o < vs.size := by rw [hcs.1]; exact (List.getElem?_eq_some_iff.1 hc).1
      have hcell : w.cell? ⟨b, o, none⟩ = some (vs.getD o undef) := by rw [cell_of_row w b o vs ty (0, 0) hh]; simp [Array.getD_eq_getD_getElem?, hlt]
      refine ⟨vs.getD o undef, run_load1 hT hag' hcell, ?_⟩
      rw [← hl]
      exact ⟨b, hb, hcell⟩
    · rename_i e hc
      simp only [Option.some.injEq] at hl
      obtain ⟨hnil, _⟩ := hcs.2 o _ hc
      have hlt : o < vs.size := by rw [hcs.1]; exact (List.getElem?_eq_some_iff.1 hc).1
      have hcell : w.cell? ⟨b, o, none⟩ = some (vs.getD o undef) := by rw [cell_of_row w b o vs ty (0, 0) hh]; simp [Array.getD_eq_getD_getElem?, hlt]
      refine ⟨vs.getD o undef, run_load1 hT hag' hcell, ?_⟩
      rw [← hl]
      exact hnil
    · simp at hl

theorem aiV_some {x i z : V} {n k : Nat} {ag : Bool} (hz : aiV x i n k ag = some z) : ∃ cs ki j, x = .agg cs ∧ i = .int ki (j : Nat) ∧ j < n ∧ cs.length = n * k ∧
    (if ag then some (V.agg ((cs.drop (j * k)).take k)) else cs[j * k]?) = some z := by
  unfold aiV at hz
  split at hz
  · rename_i cs ki i
    split at hz
    · rename_i hc
      obtain ⟨h0, h1, h2⟩ := hc
      obtain ⟨j, rfl⟩ := Int.eq_ofNat_of_zero_le h0
      exact ⟨cs, ki, j, rfl, rfl, by omega, h2, by simpa using hz⟩
    · simp at hz
  · simp at hz

theorem loadA_run (hr : RelG c B G s a w h g) {T : TypeId} (hT : okT c.P T = true) {p o : Nat} {j : E} {m kk : Nat} {k : TK} (hl : loadA c g T p o j m kk = some k) (hes : ∀ e ∈ valE k, ∃ z, eval s e = some z)
    {b q : Nat} (hb : h.bl p 0 = some b) {ki : IntKind} (hj : eval s j = some (.int ki (q : Nat))) (hq : q < m) (d : Nat) :
    Has c B s w h (fun p => a.tmps[p]?) d k (Instr.loadAt T (.pointer (some ⟨b, o + q * kk, none⟩))) := by
  unfold loadA at hl
  simp only [Option.bind_eq_some_iff] at hl
  obtain ⟨cs, hm, hl⟩ := hl
  obtain ⟨b', vs, ty, h1, _, hh, hcs⟩ := hr.memOf hm
  rw [hb] at h1; cases h1
  split at hl
  · rename_i hcond
    obtain ⟨hn, hk, h0, how, hd⟩ := hcond
    simp only [Option.some.injEq] at hl
    obtain ⟨x, hx, hxl, hone, hrd, hvs⟩ := hcs.part_rd hn hd (G' := h.F) (fun b hb => hb) (fun ho => by rw [how] at ho; cases ho)
    have hev : eval s (if plainRun (c.ix p) o ((cs.drop o).take (m * kk)) = true then E.mm (c.ix p) o ((cs.drop o).take (m * kk)).length else .ag (((cs.drop o).take (m * kk)).map (·.2))) = some (.agg x) := by
      split
      · rename_i hp
        exact eval_run hp (by rw [hn]; exact h0) hx hone
      · exact hx
    generalize (if plainRun (c.ix p) o ((cs.drop o).take (m * kk)) = true then E.mm (c.ix p) o ((cs.drop o).take (m * kk)).length else .ag (((cs.drop o).take (m * kk)).map (·.2))) = ee at hev hl
    subst hl
    obtain ⟨z, hz⟩ := hes _ (List.Mem.head _)
    simp only [eval, hev, hj, Option.bind_some] at hz
    obtain ⟨cs', ki', j', hcs', hj', hlt, hlen, hzz⟩ := aiV_some hz
    cases hcs'
    have hjq : j' = q := by
      simp only [V.int.injEq] at hj'
      omega
    subst hjq
    have hle : j' * kk + kk ≤ m * kk := by
      rw [← Nat.succ_mul]; exact Nat.mul_le_mul_right _ hlt
    have hcell : ∀ i, i < m * kk → w.cell? ⟨b, o + i, none⟩ = some (vs.getD (o + i) undef) := by
      intro i hi
      have hi' : i < ((cs.drop o).take (m * kk)).length := by rw [hn]; exact hi
      have := (hcs.part hn i _ (List.getElem?_eq_getElem hi')).2
      rw [cell_of_row w b (o + i) vs ty (0, 0) hh, this]
    have hrdc : ∀ i y, x[i]? = some y → y.one = true ∧ Rd w h.F y (vs.getD (o + i) undef) := by
      intro i y hi
      have hlt' : i < m * kk := by rw [← hxl]; exact (List.getElem?_eq_some_iff.1 hi).1
      cases hrd with
      | agg _ _ h1 h2 h3 =>
        have := h3 i y hi
        have hg : ((vs.toList.drop o).take (m * kk)).toArray.getD i undef = vs.getD (o + i) undef := by
          simp only [Array.getD_eq_getD_getElem?, List.getElem?_toArray, List.getElem?_take, if_pos hlt', List.getElem?_drop, Array.getElem?_toList]
        rw [hg] at this
        exact ⟨h2 y (List.mem_of_getElem? hi), this⟩
    cases hag : isAggT c.P T with
    | false =>
      rw [hag] at hzz hz
      simp only [Bool.false_eq_true, if_false] at hzz
      have hlt2 : j' * kk < m * kk := by rw [← hxl]; exact (List.getElem?_eq_some_iff.1 hzz).1
      refine ⟨_, run_load1 hT hag (hcell _ hlt2), z, by simp only [eval, hev, hj, Option.bind_some]; exact hz, (hrdc _ z hzz).2.mono fun b hb => GH.ext_F hb⟩
    | true =>
      rw [hag] at hzz hz
      simp only [if_true, Option.some.injEq] at hzz
      subst hzz
      refine ⟨.agg ((List.range kk).map fun i => vs.getD (o + (j' * kk + i)) undef).toArray, run_loadN hT hag _ (by simp [hk]) (fun i u hi => ?_), _, by simp only [eval, hev, hj, Option.bind_some]; exact hz, ?_⟩
      · have hlt2 : i < kk := by simpa using (List.getElem?_eq_some_iff.1 hi).1
        have : vs.getD (o + (j' * kk + i)) undef = u := by simpa [hlt2] using hi
        rw [← this, show o + j' * kk + i = o + (j' * kk + i) from by omega]
        exact hcell _ (by omega)
      · have hlen2 : ((x.drop (j' * kk)).take kk).length = kk := by simp; omega
        refine .agg _ _ (by simp only [List.size_toArray, List.length_map, List.length_range, hlen2]) (fun y hy => ?_) fun i y hi => ?_
        · obtain ⟨i, hi⟩ := List.getElem?_of_mem (List.mem_of_mem_drop (List.mem_of_mem_take hy))
          exact (hrdc i y hi).1
        · have hlt2 : i < kk := by have := (List.getElem?_eq_some_iff.1 hi).1; omega
          rw [List.getElem?_take, if_pos hlt2, List.getElem?_drop] at hi
          have : ((List.range kk).map fun i => vs.getD (o + (j' * kk + i)) undef).toArray.getD i undef = vs.getD (o + (j' * kk + i)) undef := by
            simp [Array.getD_eq_getD_getElem?, hlt2]
          rw [this]
          exact (hrdc _ y hi).2.mono fun b hb => GH.ext_F hb
  · simp at hl

/-- the cells of an element of a list of the call's own -/
theorem OwnV.elem {o : Option Nat} {ty : TypeId} {x : V} {v : Value} (hv : OwnV c.P B w h o ty x v) {ki : IntKind} {q : Nat} {y : V} {kk : Nat} (hy : idxV x (.int ki (q : Nat)) kk = some y) :
    ∃ l n cap cur, ∃ xs : Nat → Value, x = .sl l ∧ l[q]? = some y ∧ o = some n ∧ v = .slice (some ⟨n, 0, none⟩) l.length cap ∧ w.heap[n]? = some (.cells cur ty (0, 0)) ∧ y.fits (c.P.cellsOf ty) ∧ q * c.P.cellsOf ty + c.P.cellsOf ty ≤ cur.size ∧
      (∀ i, i < c.P.cellsOf ty → w.cell? ⟨n, q * c.P.cellsOf ty + i, none⟩ = some (xs i)) ∧ ∀ i z, y.cells[i]? = some z → Rd w h.F z (xs i) := by
  rcases hv with ⟨l, xs, rfl, h0, hfit, hown, hb, hrd⟩ | ⟨_, _, _, _, _, _, rfl, _⟩
  case inr => simp [idxV] at hy
  simp only [idxV] at hy
  split at hy
  · rw [Int.toNat_natCast, Option.bind_eq_some_iff] at hy
    obtain ⟨y', hy, hy'⟩ := hy
    split at hy' <;> first | (simp only [Option.some.injEq] at hy'; subst y') | (simp at hy'; done)
    have hlt := (List.getElem?_eq_some_iff.1 hy).1
    rcases hown.2 with ⟨rfl, hn⟩ | ⟨n, cap, cur, rfl, _, hh, hle, _, hsz, htk⟩
    · omega
    · have hle' : q * c.P.cellsOf ty + c.P.cellsOf ty ≤ l.length * c.P.cellsOf ty := by
        rw [← Nat.succ_mul]; exact Nat.mul_le_mul_right _ hlt
      have hle2 : l.length * c.P.cellsOf ty ≤ cur.size := by rw [hsz]; exact Nat.mul_le_mul_right _ hle
      refine ⟨l, n, cap, cur, fun i => cur.getD (q * c.P.cellsOf ty + i) undef, rfl, hy, by rw [← hb]; rfl, rfl, hh, hfit y (List.mem_of_getElem? hy), by omega, fun i hi => ?_, fun i z hz => ?_⟩
      · rw [cell_of_row w n _ cur ty (0, 0) hh]
        have : q * c.P.cellsOf ty + i < cur.size := by omega
        simp [Array.getD_eq_getD_getElem?, this]
      · have hi : i < c.P.cellsOf ty := by
          have := (List.getElem?_eq_some_iff.1 hz).1
          rw [(hfit y (List.mem_of_getElem? hy)).1] at this
          exact this
        obtain ⟨u, hu, hru⟩ := hrd (q * c.P.cellsOf ty + i) z (by rw [flat_at hfit hy i hi]; exact hz)
        have : cur.getD (q * c.P.cellsOf ty + i) undef = u := by
          rw [← htk, List.getElem?_take, if_pos (by omega)] at hu
          have hu' : cur[q * c.P.cellsOf ty + i]? = some u := by simpa using hu
          simp [Array.getD_eq_getD_getElem?, hu']
        show Rd w h.F z (cur.getD (q * c.P.cellsOf ty + i) undef)
        rw [this]
        exact hru
  · simp at hy

theorem V.pc_cells {x : V} (h : x.one = true ∨ ∃ cs, x = .agg cs) : x.pc = x.cells := by
  cases x <;> first | rfl | (rcases h with h | ⟨cs, h⟩ <;> simp [V.one] at h)
theorem fits_pc {x : V} {k : Nat} (h : x.fits k) : x.pc = x.cells := by
  cases x <;> first | rfl | (have := h.2 (.tup _) (List.mem_singleton.2 rfl); simp [V.one] at this)

theorem loadE_run (hr : RelG c B G s a w h g) {T : TypeId} (hT : okT c.P T = true) {p : Nat} {i : Option Nat} {j : E} {o kk : Nat} {k : TK} (hl : loadE c g T p i j o kk = some k) (hes : ∀ e ∈ valE k, ∃ z, eval s e = some z)
    {n q : Nat} (hb : h.bl p (plI i) = some n) {ki : IntKind} (hj : eval s j = some (.int ki (q : Nat))) (d : Nat) :
    Has c B s w h (fun p => a.tmps[p]?) d k (Instr.loadAt T (.pointer (some ⟨n, q * kk + o, none⟩))) := by
  unfold loadE at hl
  simp only [Option.bind_eq_some_iff] at hl
  obtain ⟨⟨ty, e⟩, ho, hl⟩ := hl
  split at hl
  · rename_i hk
    simp only [Option.some.injEq] at hl
    subst hl
    obtain ⟨v, x, _, hx, hown⟩ := hr.place ho
    obtain ⟨z, hz⟩ := hes _ (List.Mem.head _)
    have hidx : ∃ y, eval s (.idx e j kk) = some y := by
      unfold cellsE at hz
      split at hz
      · simp only [eval] at hz ⊢
        cases hy : ((eval s e).bind fun x => (eval s j).bind fun y => idxV x y kk) with
        | none => rw [hy] at hz; simp at hz
        | some y => exact ⟨y, rfl⟩
      · simp only [eval] at hz ⊢
        cases hy : ((eval s e).bind fun x => (eval s j).bind fun y => idxV x y kk) with
        | none => rw [hy] at hz; simp at hz
        | some y => exact ⟨y, rfl⟩
    obtain ⟨y, hy⟩ := hidx
    have hy' : idxV x (.int ki (q : Nat)) kk = some y := by
      simp only [eval, hx, hj, Option.bind_some] at hy; exact hy
    obtain ⟨l, n', cap, cur, xs, rfl, hly, hn, rfl, hh, hfit, _, hcell, hrd⟩ := hown.elem hy'
    rw [hb] at hn
    simp only [Option.some.injEq] at hn
    subst hn
    rw [hk] at hcell hfit
    have hpc : y.pc = y.cells := fits_pc hfit
    exact load_pc (c := c) (B := B) (sh := [p]) hT (b := n) (q := q * kk) (o := o) (vs := xs) (by rw [hpc]; exact hfit.2) (by rw [hpc, hfit.1]; exact hcell) (fun i z hz => by rw [hpc] at hz; exact (hrd i z hz).mono fun b hb => GH.ext_F hb) hy ⟨z, hz⟩ _ d
  · simp at hl

theorem pkLoad_run (hr : RelG c B G s a w h g) (hC : holds s (ixC c C)) {T : TypeId} {x : Operand} {k : TK} {es : List E} (hp : pkLoad c g C T x = some (k, es)) (hes : ∀ e ∈ es, ∃ z, eval s e = some z) (d : Nat) :
    Has c B s w h (fun p => a.tmps[p]?) d k (Instr.loadAt T (a.eval x)) := by
  unfold pkLoad at hp
  split at hp
  · rename_i hT
    simp only [Option.map_eq_some_iff, Prod.mk.injEq] at hp
    obtain ⟨k', hl, rfl, rfl⟩ := hp
    unfold loadK at hl
    split at hl
    · rename_i cs hk
      obtain ⟨t, rfl, ⟨v, hv, hev, ⟨b, vs, ty, h1, rfl, _⟩⟩, _⟩ := (opK_case hr hC hk rfl).resolve_left (by rintro (⟨e, h⟩ | h) <;> cases h)
      rw [hev]
      exact loadM_run hr hT hl h1 d
    · rename_i p o hk
      obtain ⟨b, h1, h2⟩ := opK_rel hr hC hk rfl d
      rw [h2]
      exact loadM_run hr hT hl h1 d
    · rename_i e o sh hk
      simp only [Option.some.injEq] at hl
      subst hl
      obtain ⟨y, b, q, vs, h0, h1, h2, h3, h4, h5⟩ := opK_rel hr hC hk rfl d
      rw [h1]
      exact load_pc hT h3 h4 h5 h0 (hes _ (List.Mem.head _)) _ d
    · rename_i e sh hk
      simp only [Option.some.injEq] at hl
      subst hl
      obtain ⟨y, hy, hrd⟩ := opK_val_rd hr hC hk
      obtain ⟨z, hz⟩ := hes _ (List.Mem.head _)
      have hst : ∃ u, starV y = some u := by
        unfold cellsE at hz
        cases hu : starV y with
        | none => split at hz <;> simp [eval, hy, hu] at hz
        | some u => exact ⟨u, rfl⟩
      obtain ⟨u, hu⟩ := hst
      generalize a.eval x = v at hrd
      cases hrd with
      | ptr cs b o vs h1 h2 h3 h4 =>
        simp only [starV, Option.some.injEq] at hu
        subst hu
        exact load_pc (c := c) (B := B) (sh := sh) hT (x := .agg cs) (b := b) (q := o) (o := 0) (vs := vs) h2 h3 h4 (by simp [eval, hy, starV]) ⟨z, hz⟩ _ d
      | _ => simp [starV] at hu
    · rename_i p i j o kk hk
      obtain ⟨n, q, h1, ⟨ki, h2⟩, h3⟩ := opK_rel hr hC hk rfl d
      rw [h3]
      exact loadE_run hr hT hl hes h1 h2 d
    · rename_i p o j m kk hk
      obtain ⟨b, q, h1, ⟨ki, h2⟩, h3, h4⟩ := opK_rel hr hC hk rfl d
      rw [h4]
      exact loadA_run hr hT hl hes h1 h2 h3 d
    · simp at hl
  · simp at hp
end
end Vm
