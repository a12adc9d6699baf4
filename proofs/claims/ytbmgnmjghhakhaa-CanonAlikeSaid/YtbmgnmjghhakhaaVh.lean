/-
  Operations that write nothing but their own temporary (3): sizes, parts of values, slices, numbers; no memory of their own.
-/
import Derived.Test.YtbmgnmjghhakhaaVg
namespace Vm
open Go
open Go.RowKit (Below)
set_option linter.unusedSimpArgs false
set_option linter.unusedVariables false
section
variable {c : Ctx} {B : Nat} {G : Nat → Prop} {s : St} {a : Act} {w : World} {h : GH} {g : Gam} {C : Conds}

/-! ### Sizes -/
theorem oneE_eval {e : E} {x : V} (hx : eval s (oneE e) = some x) : eval s e = some x ∧ x.one = true := by
  unfold oneE at hx
  split at hx
  · rename_i hs
    exact ⟨hx, eval_sure e x hs hx⟩
  · simp only [eval, Option.bind_eq_some_iff] at hx
    obtain ⟨y, hy, h1⟩ := hx
    obtain ⟨rfl, h2⟩ := oneV_some h1
    exact ⟨hy, h2⟩
theorem szV_some {x z : V} {n : Nat} (hz : szV x n = some z) : x = z ∧ z.cells.length = n ∧ ∀ l, z ≠ .tup l := by
  unfold szV at hz
  split at hz
  · rename_i hn
    cases x <;> simp only [Option.some.injEq] at hz <;> first | (subst hz; exact ⟨rfl, hn, by simp⟩) | (simp at hz; done)
  · simp at hz
theorem one_not_tup {x : V} (h : x.one = true) : ∀ l, x ≠ .tup l := by
  intro l hl; subst hl; simp [V.one] at h
theorem one_cells {x : V} (h : x.one = true) : x.cells = [x] := by
  cases x <;> first | rfl | simp [V.one] at h
theorem szE_eval {e : E} {n : Nat} {x : V} (hx : eval s (szE e n) = some x) : eval s e = some x ∧ x.cells.length = n ∧ ∀ l, x ≠ .tup l := by
  unfold szE at hx
  split at hx
  · rename_i hs
    refine ⟨hx, ?_⟩
    cases e <;> simp only [E.sized, beq_iff_eq, Bool.and_eq_true] at hs <;> first | (cases hs; done) | skip
    · subst hs
      simp only [eval] at hx
      split at hx
      · split at hx
        · simp only [Option.some.injEq] at hx
          subst hx
          exact ⟨by simp [V.cells]; omega, by simp⟩
        · simp at hx
      · simp at hx
    · subst hs
      simp only [eval, Option.bind_eq_some_iff] at hx
      obtain ⟨y, _, hy⟩ := hx
      obtain ⟨h1, rfl⟩ := fldsV_some hy
      exact ⟨by simp [V.cells]; omega, by simp⟩
    · rename_i l
      obtain ⟨hl, hall⟩ := hs
      simp only [eval, Option.map_eq_some_iff] at hx
      obtain ⟨xs, hxs, rfl⟩ := hx
      obtain ⟨h1, h2⟩ := evals_map hxs
      have hone : ∀ y ∈ xs, y.one = true := by
        intro y hy
        obtain ⟨i, hi⟩ := List.getElem?_of_mem hy
        have hlt : i < l.length := by have := (List.getElem?_eq_some_iff.1 hi).1; omega
        obtain ⟨z, hz, hz'⟩ := h2 i l[i] (List.getElem?_eq_getElem hlt)
        rw [hi] at hz; cases hz
        exact eval_sure _ _ (List.all_eq_true.1 hall _ (List.getElem_mem hlt)) hz'
      exact ⟨by simp only [agV, V.cells, flat_one hone]; omega, by simp [agV]⟩
    · subst hs
      simp only [eval, Option.bind_eq_some_iff] at hx
      obtain ⟨y, _, hy⟩ := hx
      exact (szV_some hy).2
  · simp only [eval, Option.bind_eq_some_iff] at hx
    obtain ⟨y, hy, h1⟩ := hx
    obtain ⟨rfl, h2⟩ := szV_some h1
    exact ⟨hy, h2⟩
theorem tyE_eval {ag : Bool} {n : Nat} {e : E} {x : V} (hx : eval s (tyE ag n e) = some x) : eval s e = some x ∧ (∀ l, x ≠ .tup l) ∧ (ag = true → x.cells.length = n) ∧ (ag = false → x.one = true) := by
  unfold tyE at hx
  cases ag with
  | true =>
    obtain ⟨h1, h2, h3⟩ := szE_eval (by simpa using hx)
    exact ⟨h1, h3, fun _ => h2, by simp⟩
  | false =>
    obtain ⟨h1, h2⟩ := oneE_eval (by simpa using hx)
    exact ⟨h1, one_not_tup h2, by simp, fun _ => h2⟩
/-- a value of a type has the type's cells, each of which reads as its own -/
theorem Rd.cellsOf {G' : Nat → Prop} {x : V} {v : Value} (hx : Rd w G' x v) (ht : ∀ l, x ≠ .tup l) : ∀ (i : Nat) (c : V), x.cells[i]? = some c → ∃ u, v.cells[i]? = some u ∧ c.one = true ∧ Rd w G' c u := by
  obtain ⟨h1, h2, h3⟩ := hx.cells ht
  intro i c hi
  have hlt : i < v.cells.size := by rw [h1]; exact (List.getElem?_eq_some_iff.1 hi).1
  refine ⟨v.cells.getD i undef, by simp [Array.getD_eq_getD_getElem?, hlt], h2 c (List.mem_of_getElem? hi), h3 i c hi⟩

/-! ### Parts of values -/
theorem run_part {P : Program} {T : TypeId} (hT : (P.underlying T).isSome = true) (hsz : P.cellsOf T ≠ 0) {vs : Array Value} {o : Nat} (hlt : o + P.cellsOf T ≤ vs.size) :
    (part T vs o).run P w = .ok (if isAggT P T then .agg (vs.extract o (o + P.cellsOf T)) else vs.getD o undef) w := by
  obtain ⟨i, hi, hs⟩ := info_of_cells hsz
  have hok : okT P T = true := by simp [okT, hT, hi]
  obtain ⟨d, i', hd, hi', hs', hagg⟩ := okT_of hok
  have hlt' : o < vs.size := by omega
  cases hag : isAggT P T with
  | true => simp [part, hagg, hag, run_szOf hi', hs']
  | false => simp [part, hagg, hag, hlt', Array.getD_eq_getD_getElem?]
theorem Rd.part {G' : Nat → Prop} {cs : List V} {vs : Array Value} (h1 : vs.size = cs.length) (h2 : ∀ c ∈ cs, c.one = true) (h3 : ∀ i c, cs[i]? = some c → Rd w G' c (vs.getD i undef)) {o n : Nat} (hle : o + n ≤ cs.length) :
    Rd w G' (.agg ((cs.drop o).take n)) (.agg (vs.extract o (o + n))) := by
  refine .agg _ _ (by simp; omega) (fun y hy => h2 y (List.mem_of_mem_drop (List.mem_of_mem_take hy))) fun i y hi => ?_
  rw [List.getElem?_take] at hi
  split at hi
  · rename_i hin
    rw [List.getElem?_drop] at hi
    have := h3 (o + i) y hi
    have hg : (vs.extract o (o + n)).getD i undef = vs.getD (o + i) undef := by
      have hb : i < o + n - o := by omega
      simp only [Array.getD_eq_getD_getElem?, Array.getElem?_extract]
      rw [if_pos (by omega)]
    rw [hg]; exact this
  · simp at hi

theorem isagV_some {x z : V} (hz : isagV x = some z) : ∃ cs, x = .agg cs ∧ z = .agg cs := by
  unfold isagV at hz
  split at hz
  · simp only [Option.some.injEq] at hz; exact ⟨_, rfl, hz.symm⟩
  · simp at hz
theorem isAggT_some {P : Program} {T : TypeId} (hu : (P.underlying T).isSome = false) : isAggT P T = false := by
  unfold isAggT
  cases h : P.underlying T with
  | none => rfl
  | some d => rw [h] at hu; simp at hu
theorem pkFld_run (hr : RelG c B G s a w h g) (hC : holds s (ixC c C)) {T : TypeId} {x : Operand} {f : Nat} {k : TK} {es : List E} (hp : pkFld c g C T x f = some (k, es)) (hes : ∀ e ∈ es, ∃ z, eval s e = some z) (d : Nat) :
    Has c B s w h (fun p => a.tmps[p]?) d k (Instr.field T (a.eval x) f) := by
  unfold pkFld at hp
  simp only [Option.bind_eq_some_iff] at hp
  obtain ⟨y, hf, hp⟩ := hp
  split at hp
  · simp at hp
  · rename_i hn
    simp only [Option.map_eq_some_iff, Prod.mk.injEq] at hp
    obtain ⟨⟨e, sh⟩, he, rfl, rfl⟩ := hp
    obtain ⟨fs, fd, hu, hfd, hok, rfl⟩ := fieldOf_some hf
    simp only at hn
    obtain ⟨u, hu', hrd⟩ := opE_rd hr hC he
    obtain ⟨z, hz⟩ := hes _ (List.Mem.head _)
    simp only at hz
    generalize a.eval x = v at hrd
    obtain ⟨i, hi, hs⟩ := info_of_cells hn
    have hsome : (c.P.underlying fd.type).isSome = true := by simp only [okT, Bool.and_eq_true] at hok; exact hok.1
    cases hag : isAggT c.P fd.type with
    | true =>
      rw [hag] at hz
      simp only [if_true, eval, hu', Option.bind_some, Option.bind_eq_some_iff] at hz
      obtain ⟨q, hq, hz⟩ := hz
      obtain ⟨cs, rfl, rfl⟩ := isagV_some hq
      obtain ⟨hle, rfl⟩ := fldsV_some hz
      cases hrd with
      | agg _ vs h1 h2 h3 =>
        refine ⟨.agg (vs.extract fd.offset (fd.offset + c.P.cellsOf fd.type)), ?_, .agg ((cs.drop fd.offset).take (c.P.cellsOf fd.type)), ?_, Rd.part h1 h2 h3 hle⟩
        · have := run_part (w := w) (P := c.P) hsome hn (vs := vs) (o := fd.offset) (by rw [h1]; exact hle)
          rw [hag] at this
          simp [Instr.field, run_underlying hu, hfd, asAgg, this]
        · simp only [hag, if_true, eval, hu', Option.bind_some, isagV, fldsV]
          rw [if_pos hle]; rfl
    | false =>
      rw [hag] at hz
      simp only [Bool.false_eq_true, if_false, eval, hu', Option.bind_some, Option.bind_eq_some_iff] at hz
      obtain ⟨q, hq, hz⟩ := hz
      obtain ⟨cs, rfl, rfl⟩ := isagV_some hq
      have hz' := fldV_some hz
      cases hrd with
      | agg _ vs h1 h2 h3 =>
        have hlt : fd.offset < vs.size := by rw [h1]; exact (List.getElem?_eq_some_iff.1 hz').1
        refine ⟨vs.getD fd.offset undef, ?_, z, ?_, h3 _ _ hz'⟩
        · obtain ⟨d', i', hd', hi', hs', hagg⟩ := okT_of (P := c.P) (T := fd.type) (by simp [okT, hsome, hi])
          simp [Instr.field, run_underlying hu, hfd, asAgg, part, hagg, hag, hlt, Array.getD_eq_getD_getElem?]
        · simp only [hag, Bool.false_eq_true, if_false, eval, hu', Option.bind_some, isagV]
          exact hz

theorem pkIndex_run (hr : RelG c B G s a w h g) (hC : holds s (ixC c C)) {T : TypeId} {x i : Operand} {k : TK} {es : List E} (hp : pkIndex c g C T x i = some (k, es)) (hes : ∀ e ∈ es, ∃ z, eval s e = some z) (d : Nat) :
    Has c B s w h (fun p => a.tmps[p]?) d k (Instr.index T (a.eval x) (a.eval i)) := by
  unfold pkIndex at hp
  split at hp
  · rename_i n el hT
    have hT' := td_ar hT
    split at hp
    · simp at hp
    · rename_i hokel
      simp only [Bool.not_eq_true, Bool.not_eq_false'] at hokel
      simp only [Option.bind_eq_some_iff, Option.map_eq_some_iff, Prod.mk.injEq] at hp
      obtain ⟨⟨e, sh⟩, he, ⟨j, sj⟩, hj, rfl, rfl⟩ := hp
      obtain ⟨u, hu, hrd⟩ := opE_rd hr hC he
      obtain ⟨y, hy, hyr⟩ := opE_rd hr hC hj
      obtain ⟨z, hz⟩ := hes _ (List.Mem.head _)
      have hz0 := hz
      simp only [eval, hu, hy, Option.bind_some] at hz
      obtain ⟨cs, ki, q, rfl, rfl, hq, hlen, hzz⟩ := aiV_some hz
      rw [hyr.int_eq]
      generalize a.eval x = v at hrd
      obtain ⟨dd, info, hd, hi, hs, hagg⟩ := okT_of hokel
      have hle : q * c.P.cellsOf el + c.P.cellsOf el ≤ n * c.P.cellsOf el := by
        rw [← Nat.succ_mul]; exact Nat.mul_le_mul_right _ hq
      cases hrd with
      | agg _ vs h1 h2 h3 =>
        cases hag : isAggT c.P el with
        | false =>
          rw [hag] at hzz hz0
          simp only [Bool.false_eq_true, if_false] at hzz
          have hlt : q * c.P.cellsOf el < vs.size := by rw [h1]; exact (List.getElem?_eq_some_iff.1 hzz).1
          rw [hs] at hlt hzz
          refine ⟨vs.getD (q * info.size) undef, ?_, z, by rw [hag] at *; exact hz0, h3 _ _ hzz⟩
          simp [Instr.index, asIntOf, run_underlying hT', hq, run_szOf hi, part, hagg, hag, hlt, Array.getD_eq_getD_getElem?]
        | true =>
          rw [hag] at hzz hz0
          simp only [if_true, Option.some.injEq] at hzz
          subst hzz
          refine ⟨.agg (vs.extract (q * c.P.cellsOf el) (q * c.P.cellsOf el + c.P.cellsOf el)), ?_, _, by rw [hag] at *; exact hz0, Rd.part h1 h2 h3 (by omega)⟩
          rw [hs]
          simp [Instr.index, asIntOf, run_underlying hT', hq, run_szOf hi, part, hagg, hag]
  · simp at hp

theorem sizeOk_spec {k : Nat} {l : List V} (hk : sizeOk k l = true) : ∀ x ∈ l, x.cells.length = k := fun x hx => by
  have := List.all_eq_true.1 hk x hx
  simpa using this
theorem elem_of {P : Program} {T el : TypeId} (h : P.underlying T = some (.slice el)) : P.elem T = el := by
  simp [Program.elem, h]
/-- a part of a list reads as the part -/
theorem Rd.sliced {G' : Nat → Prop} {l : List V} {o : Option Addr} {len cap : Nat} (hx : Rd w G' (.sl l) (.slice o len cap)) {k p q : Nat} (hk : sizeOk k l = true) (hpq : p ≤ q) (hq : q ≤ l.length) :
    q ≤ cap ∧ len = l.length ∧ Rd w G' (.sl ((l.take q).drop p)) (sliced o p q cap k) := by
  cases hx with
  | nil _ _ hc =>
    simp only [List.length_nil, Nat.le_zero] at hq
    subst hq
    have hp0 : p = 0 := by omega
    subst hp0
    exact ⟨Nat.zero_le _, rfl, by simp only [Go.sliced, List.take_nil, List.drop_nil, Nat.sub_zero]; exact .nil _ _ hc⟩
  | sl _ b o _ kk vs h1 h2 h3 h4 h5 h6 =>
    refine ⟨by omega, rfl, ?_⟩
    unfold Go.sliced
    by_cases hpq' : p = q
    · subst hpq'
      have : (l.take p).drop p = [] := by
        rw [List.drop_eq_nil_of_le]; simp; omega
      rw [this, Nat.sub_self]
      exact .nil _ _ (by omega)
    · have hne : cap ≠ p := by omega
      have hl0 : ∃ x, l[p]? = some x := ⟨_, List.getElem?_eq_getElem (by omega)⟩
      obtain ⟨x, hx⟩ := hl0
      have hkk : kk = k := by rw [← (h4 x (List.mem_of_getElem? hx)).1, sizeOk_spec hk x (List.mem_of_getElem? hx)]
      subst hkk
      have hlen : ((l.take q).drop p).length = q - p := by simp; omega
      simp only [if_neg hne, Option.map_some, Addr.add_lit]
      rw [← hlen]
      have hflat : Vm.flat ((l.take q).drop p) = ((Vm.flat l).take (q * kk)).drop (p * kk) := by
        rw [flat_drop (k := kk) (fun x hx => h4 x (List.mem_of_mem_take hx)), flat_take h4]
      refine .sl _ b (o + p * kk) (cap - p) kk (fun i => vs (p * kk + i)) (by omega) (by omega) h3 (fun x hx => h4 x (List.mem_of_mem_take (List.mem_of_mem_drop hx))) (fun i hi => ?_) fun i c hi => ?_
      · rw [Nat.add_assoc]
        refine h5 _ ?_
        have : (q - p) * kk + p * kk ≤ l.length * kk := by rw [← Nat.add_mul]; exact Nat.mul_le_mul_right _ (by omega)
        rw [hlen] at hi
        omega
      · rw [hflat, List.getElem?_drop, List.getElem?_take] at hi
        split at hi
        · exact h6 _ _ hi
        · simp at hi
theorem run_sliceAt_slice_has {T : TypeId} (hT : c.P.underlying T = some (.slice (c.P.elem T))) {v : Value} {lo hi : Option Value} {tm : Nat → Option Value} {d : Nat} {k : TK} :
    Has c B s w h tm d k (Instr.sliceAt T v lo hi none) = Has c B s w h tm d k (Instr.slice T v lo hi none) := by
  unfold Has
  rw [run_sliceAt_slice w T v lo hi none hT]
theorem run_sizeOf {P : Program} {T : TypeId} (hT : okT P T = true) (w : World) : (Go.sizeOf T).run P w = .ok (P.cellsOf T) w := by
  obtain ⟨d, i, hd, hi, hs, _⟩ := okT_of hT
  rw [run_szOf hi, hs]

theorem slcV_some {k : Nat} {x y z u : V} (hz : slcV k x y z = some u) : ∃ l ka kb p q, x = .sl l ∧ y = .int ka (p : Nat) ∧ z = .int kb (q : Nat) ∧ p ≤ q ∧ q ≤ l.length ∧ sizeOk k l = true ∧ u = .sl ((l.take q).drop p) := by
  unfold slcV at hz
  split at hz
  · rename_i l ka p kb q
    split at hz
    · rename_i hc
      obtain ⟨h0, h1, h2, h3⟩ := hc
      obtain ⟨p, rfl⟩ := Int.eq_ofNat_of_zero_le h0
      obtain ⟨q, rfl⟩ := Int.eq_ofNat_of_zero_le (Int.le_trans h0 h1)
      simp only [Option.some.injEq, Int.toNat_natCast] at hz
      exact ⟨l, ka, kb, p, q, rfl, rfl, rfl, by omega, by omega, h3, hz.symm⟩
    · simp at hz
  · simp at hz
theorem slclV_some {k : Nat} {x y u : V} (hz : slclV k x y = some u) : ∃ l ka p, x = .sl l ∧ y = .int ka (p : Nat) ∧ p ≤ l.length ∧ sizeOk k l = true ∧ u = .sl (l.drop p) := by
  unfold slclV at hz
  split at hz
  · rename_i l ka p
    split at hz
    · rename_i hc
      obtain ⟨h0, h1, h3⟩ := hc
      obtain ⟨p, rfl⟩ := Int.eq_ofNat_of_zero_le h0
      simp only [Option.some.injEq, Int.toNat_natCast] at hz
      exact ⟨l, ka, p, rfl, rfl, by omega, h3, hz.symm⟩
    · simp at hz
  · simp at hz
theorem Rd.sl_eq {G' : Nat → Prop} {l : List V} {v : Value} (hx : Rd w G' (.sl l) v) : ∃ o len cap, v = .slice o len cap := by
  cases hx <;> exact ⟨_, _, _, rfl⟩
theorem pkSlice_run (hr : RelG c B G s a w h g) (hC : holds s (ixC c C)) {T : TypeId} {x : Operand} {lo hi : Option Operand} {k : TK} {es : List E} (hp : pkSlice c g C T x lo hi = some (k, es)) (hes : ∀ e ∈ es, ∃ z, eval s e = some z) (d : Nat) :
    Has c B s w h (fun p => a.tmps[p]?) d k (Instr.sliceAt T (a.eval x) (lo.map a.eval) (hi.map a.eval) none) := by
  unfold pkSlice at hp
  split at hp
  · rename_i el hT
    have hT' := td_sl hT
    have hel := elem_of hT'
    have hT2 : c.P.underlying T = some (.slice (c.P.elem T)) := by rw [hel]; exact hT'
    split at hp
    · rename_i hok
      simp only [Option.bind_eq_some_iff, Option.map_eq_some_iff, Prod.mk.injEq] at hp
      obtain ⟨⟨e, sh⟩, he, l, hl, e', he', rfl, rfl⟩ := hp
      obtain ⟨u, hu, hrd⟩ := opE_rd hr hC he
      obtain ⟨z, hz⟩ := hes _ (List.Mem.head _)
      rw [run_sliceAt_slice_has hT2]
      generalize a.eval x = v at hrd
      cases hi with
      | some hh =>
        simp only [opHi, Option.map_eq_some_iff] at he'
        obtain ⟨⟨f, sf⟩, hf, rfl⟩ := he'
        obtain ⟨y2, hy2, hr2⟩ := opE_rd hr hC hf
        have hz0 := hz
        simp only [eval, hu, hy2, Option.bind_some, Option.bind_eq_some_iff] at hz
        obtain ⟨y1, hy1, hz⟩ := hz
        obtain ⟨ll, ka, kb, p, q, rfl, rfl, rfl, hpq, hq, hsz, rfl⟩ := slcV_some hz
        obtain ⟨o, len, cap, rfl⟩ := hrd.sl_eq
        obtain ⟨hqc, hlen, hres⟩ := hrd.sliced hsz hpq hq
        refine ⟨_, ?_, _, hz0, hres⟩
        cases lo with
        | some ll' =>
          simp only [opLo, Option.map_eq_some_iff] at hl
          obtain ⟨⟨f1, sf1⟩, hf1, rfl⟩ := hl
          obtain ⟨y3, hy3, hr3⟩ := opE_rd hr hC hf1
          rw [hy1] at hy3; cases hy3
          simp only [Option.map_some]
          rw [hr2.int_eq, hr3.int_eq]
          have := run_slice_lh (P := c.P) w T o len cap hT2 ka kb p q (by omega) (by omega) (by omega)
          rw [this, hel, run_sizeOf hok]
          simp [Result.andThen]
        | none =>
          simp only [opLo, Option.some.injEq] at hl
          subst hl
          simp only [eval, Option.some.injEq, V.int.injEq] at hy1
          have hp0 : p = 0 := by omega
          subst hp0
          simp only [Option.map_some, Option.map_none]
          rw [hr2.int_eq]
          have := run_slice_h (P := c.P) w T o len cap hT2 kb q (by omega) (by omega)
          rw [this, hel, run_sizeOf hok]
          simp [Result.andThen]
      | none =>
        simp only [opHi, Option.some.injEq] at he'
        subst he'
        have hz0 := hz
        simp only [eval, hu, Option.bind_some, Option.bind_eq_some_iff] at hz
        obtain ⟨y1, hy1, hz⟩ := hz
        obtain ⟨ll, ka, p, rfl, rfl, hq, hsz, rfl⟩ := slclV_some hz
        obtain ⟨o, len, cap, rfl⟩ := hrd.sl_eq
        obtain ⟨hqc, hlen, hres⟩ := hrd.sliced hsz hq (Nat.le_refl _)
        rw [List.take_length] at hres
        refine ⟨_, ?_, _, hz0, hres⟩
        cases lo with
        | some ll' =>
          simp only [opLo, Option.map_eq_some_iff] at hl
          obtain ⟨⟨f1, sf1⟩, hf1, rfl⟩ := hl
          obtain ⟨y3, hy3, hr3⟩ := opE_rd hr hC hf1
          rw [hy1] at hy3; cases hy3
          simp only [Option.map_some, Option.map_none]
          rw [hr3.int_eq]
          have := run_slice_l (P := c.P) w T o len cap hT2 ka p (by omega) (by omega)
          rw [this, hel, run_sizeOf hok]
          simp [Result.andThen, hlen]
        | none =>
          simp only [opLo, Option.some.injEq] at hl
          subst hl
          simp only [eval, Option.some.injEq, V.int.injEq] at hy1
          have hp0 : p = 0 := by omega
          subst hp0
          simp only [Option.map_none]
          have := run_slice_all (P := c.P) w T o len cap hT2
          rw [this, hel, run_sizeOf hok]
          simp [Result.andThen, hlen]
    · simp at hp
  · simp at hp
end
end Vm
