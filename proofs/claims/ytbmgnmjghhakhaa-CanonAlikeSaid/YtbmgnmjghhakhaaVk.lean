/-
  Lists: literals, make, append.
-/
import Derived.Test.YtbmgnmjghhakhaaVj
namespace Vm
open Go
open Go.RowKit (Below)
set_option linter.unusedSimpArgs false
set_option linter.unusedVariables false

theorem flat_split {k : Nat} {l : List V} (hfit : ∀ x ∈ l, x.fits k) (hk : 0 < k) {i : Nat} {c : V} (hi : (flat l)[i]? = some c) : ∃ q j z, l[q]? = some z ∧ j < k ∧ i = q * k + j ∧ z.cells[j]? = some c := by
  have hlt : i < l.length * k := by rw [← flat_length hfit]; exact (List.getElem?_eq_some_iff.1 hi).1
  have hq : i / k < l.length := by rw [Nat.div_lt_iff_lt_mul hk]; exact hlt
  have hj := Nat.mod_lt i hk
  have hdm := Nat.div_add_mod i k
  refine ⟨i / k, i % k, l[i / k], List.getElem?_eq_getElem hq, hj, by rw [Nat.mul_comm]; omega, ?_⟩
  rw [← flat_at hfit (List.getElem?_eq_getElem hq) (i % k) hj, show i / k * k + i % k = i from by rw [Nat.mul_comm]; omega]
  exact hi

section
variable {c : Ctx} {B : Nat} {G : Nat → Prop} {s : St} {a : Act} {w w' : World} {h : GH} {g : Gam} {C : Conds}

theorem elOk_some {P : Program} {el : TypeId} (he : elOk P el = true) : ∃ i z, P.info? el = some i ∧ i.zero = some z ∧ z.cells.size = i.size ∧ 0 < i.size ∧ i.bytes ≤ 32768 ∧ P.cellsOf el = i.size := by
  unfold elOk at he
  split at he
  · rename_i i hi
    split at he
    · rename_i z hz
      simp only [Bool.and_eq_true, beq_iff_eq, decide_eq_true_eq] at he
      exact ⟨i, z, hi, hz, he.1.1, he.1.2, he.2, by simp [Program.cellsOf, hi]⟩
    · simp at he
  · simp at he
theorem ownsRow_base {B B' : Nat} {e : TypeId} {k n : Nat} {v : Value} {xs : List Value} (hr : w.ownsRow B' e k v n xs) (hb : B ≤ B') : w.ownsRow B e k v n xs := by
  refine ⟨hr.1, ?_⟩
  rcases hr.2 with hn | ⟨g, cap, cur, rfl, h1, r⟩
  · exact .inl hn
  · exact .inr ⟨g, cap, cur, rfl, Nat.le_trans hb h1, r⟩

/-- a new list: a value, or one of the call's own -/
theorem newList (hok : Ok B G w h) (hg : w.grownBy w' none) {el : TypeId} {e : E} {sh : List Nat} {l : List V} {v : Value} {xs : List Value} (he : eval s e = some (.sl l)) (hk : 0 < c.P.cellsOf el) (hfit : ∀ x ∈ l, x.fits (c.P.cellsOf el))
    (hown : w'.ownsRow w.heap.size el (c.P.cellsOf el) v l.length xs) (hrd : ∀ (i : Nat) (ck : V), (flat l)[i]? = some ck → ∃ u, xs[i]? = some u ∧ Rd w (h.ext sh) ck u)
    {dst : Option Nat} {k : TK} {es : List E} (ho : ownOr c dst el e sh = some (k, es)) (tm : Nat → Option Value) (d : Nat) (hd : dst = some d) : PRes c B G s w h tm d k v w' := by
  subst hd
  unfold ownOr at ho
  have hown' := ownsRow_base hown hok.base
  have hext := ext_lt hok sh
  simp only at ho
  split at ho
  · rename_i hcond
    simp only [Bool.and_eq_true, List.isEmpty_iff] at hcond
    obtain ⟨_, rfl⟩ := hcond
    simp only [Option.some.injEq, Prod.mk.injEq] at ho
    obtain ⟨rfl, rfl⟩ := ho
    have hrd' : ∀ {h' : GH}, (∀ b, h.F b → h'.F b) → ∀ (i : Nat) (ck : V), (flat l)[i]? = some ck → ∃ u, xs[i]? = some u ∧ Rd w' h'.F ck u := by
      intro h' hF i ck hi
      obtain ⟨u, hu, hr⟩ := hrd i ck hi
      exact ⟨u, hu, hr.F.keep (same_grown hok hg hok.f_lt) hF⟩
    cases hv : v.ownBlock with
    | none =>
      -- no list at all
      refine ⟨{ F := h.F, bl := fun t j => if t = d then none else h.bl t j, K := h.K }, ⟨below_grown hok hg, fun b hb _ => hg.block b hb (by simp), fun _ hb => hb, fun t ht _ => ?_, fun t ht => ?_, fun _ _ _ _ hm => (by simp at hm), rfl⟩,
        ⟨Nat.le_trans hok.base hg.size, fun b hb => Nat.lt_of_lt_of_le (hok.f_lt b hb) hg.size, hok.f_or, hok.g_F, fun t j b hb => ?_, fun t j u q b hb hb' => ?_, fun b hb => Nat.lt_of_lt_of_le (hok.k_lt b hb) hg.size, fun t j b hb => ?_, hok.k_F⟩, .sl l, he, .inl ⟨l, xs, rfl, hk, hfit, hown', by rw [hv]; simp, hrd' fun _ hb => hb⟩⟩
      · have : t ≠ d := by simpa using ht
        funext j; simp [this]
      · have : t ≠ d := by simpa using ht
        simp [this]
      · simp only at hb
        split at hb
        · cases hb
        · obtain ⟨h1, h2, h3⟩ := hok.b_lt t j b hb
          exact ⟨h1, Nat.lt_of_lt_of_le h2 hg.size, h3⟩
      · simp only at hb hb'
        split at hb <;> split at hb' <;> first | (cases hb; done) | (cases hb'; done) | exact hok.inj t j u q b hb hb'
      · simp only at hb
        split at hb
        · cases hb
        · exact hok.k_bl t j b hb
    | some n =>
      obtain ⟨h1, h2⟩ := hown.lt n hv
      obtain ⟨hok', hst⟩ := step_give hok hg d 1 h1 h2
      exact ⟨_, hst, hok', .sl l, he, .inl ⟨l, xs, rfl, hk, hfit, hown', by rw [hv]; simp [GH.give], hrd' fun _ hb => hb⟩⟩
  · simp only [Option.some.injEq, Prod.mk.injEq] at ho
    obtain ⟨rfl, rfl⟩ := ho
    rcases hown.2 with ⟨rfl, hn⟩ | ⟨n, cap, cur, rfl, h1, hh, hle, hcap, hsz, htk⟩
    · have hl : l = [] := List.eq_nil_of_length_eq_zero hn
      subst hl
      refine ⟨h, ⟨below_grown hok hg, fun b hb _ => hg.block b hb (by simp), fun _ hb => hb, fun _ _ _ => rfl, fun _ _ => rfl, fun _ _ _ _ hm => (by simp at hm), rfl⟩,
        ⟨Nat.le_trans hok.base hg.size, fun b hb => Nat.lt_of_lt_of_le (hok.f_lt b hb) hg.size, hok.f_or, hok.g_F, fun t j b hb => ?_, hok.inj, fun b hb => Nat.lt_of_lt_of_le (hok.k_lt b hb) hg.size, hok.k_bl, hok.k_F⟩, .sl [], he, .nil _ _ (Nat.zero_le _)⟩
      obtain ⟨h1, h2, h3⟩ := hok.b_lt t j b hb
      exact ⟨h1, Nat.lt_of_lt_of_le h2 hg.size, h3⟩
    · have h2 : n < w'.heap.size := (Array.getElem?_eq_some_iff.1 hh).1
      obtain ⟨hok', hst⟩ := step_froz hok hg [d] [d] h1 h2
      refine ⟨_, hst, hok', .sl l, he, .sl l n 0 cap (c.P.cellsOf el) (fun i => cur.getD i undef) hle hcap (.inl (.inr rfl)) hfit (fun i hi => ?_) fun i ck hi => ?_⟩
      · rw [Nat.zero_add, cell_of_row w' n i cur el (0, 0) hh]
        have : i < cur.size := by rw [hsz]; exact Nat.lt_of_lt_of_le hi (Nat.mul_le_mul_right _ hle)
        simp [Array.getD_eq_getD_getElem?, this]
      · obtain ⟨u, hu, hr⟩ := hrd i ck hi
        have hu' : cur.getD i undef = u := by
          rw [← htk, List.getElem?_take] at hu
          split at hu
          · simp only [Array.getD_eq_getD_getElem?]
            have : cur[i]? = some u := by simpa using hu
            rw [this]; rfl
          · simp at hu
        rw [hu']
        refine hr.keep (same_grown hok hg hext) fun b hb => ?_
        rcases hb with hb | ⟨p, hp, i, hi⟩
        · exact .inl (.inl hb)
        · exact .inr ⟨p, hp, i, hi⟩

/-! ### A literal -/
theorem opsF_rd (hr : RelG c B G s a w h g) (hC : holds s (ixC c C)) {fl ag : Bool} {n : Nat} (hn : n ≠ 0) : ∀ {l : List Operand} {es : List E × List Nat}, opsF g C fl l = some es → ∀ {zs : List V}, evals s (es.1.map (tyE ag n)) = some zs →
    zs.length = l.length ∧ ∀ (i : Nat) (x : Operand), l[i]? = some x → ∃ z, zs[i]? = some z ∧ (∀ l, z ≠ .tup l) ∧ (ag = true → z.cells.length = n) ∧ (ag = false → z.one = true) ∧ Rd w (h.ext es.2) z (a.eval x)
  | [], es, he, zs, hz => by
    simp only [opsF, Option.some.injEq] at he
    subst he
    simp only [List.map_nil, evals, Option.some.injEq] at hz
    subst hz
    exact ⟨rfl, fun i x hi => by simp at hi⟩
  | x :: l, es, he, zs, hz => by
    simp only [opsF, Option.bind_eq_some_iff, Option.map_eq_some_iff] at he
    obtain ⟨a0, ha, b, hb, rfl⟩ := he
    simp only [List.map_cons, evals, Option.bind_eq_some_iff, Option.map_eq_some_iff] at hz
    obtain ⟨z, hz1, zs', hz2, rfl⟩ := hz
    obtain ⟨h1, h2⟩ := opsF_rd hr hC hn hb hz2
    obtain ⟨k1, k2, k3, k4⟩ := kept_cells hr hC ha hn hz1
    refine ⟨by simp [h1], fun i y hi => ?_⟩
    cases i with
    | zero =>
      simp at hi; subst hi
      exact ⟨z, by simp, k1, k2, k3, k4.mono fun b hb => GH.ext_left hb⟩
    | succ i =>
      obtain ⟨z', e1, e2, e3, e4, e5⟩ := h2 i y (by simpa using hi)
      exact ⟨z', by simpa using e1, e2, e3, e4, e5.mono fun b hb => GH.ext_right hb⟩

theorem pkBuildSlice_run (hr : RelG c B G s a w h g) (hC : holds s (ixC c C)) {T : TypeId} {n : Nat} {parts : Array (Nat × Operand)} {dst : Option Nat} {k : TK} {es : List E} (hp : pkBuildSlice c g C dst T n parts.toList = some (k, es)) (hes : ∀ e ∈ es, ∃ z, eval s e = some z) (tm : Nat → Option Value) (d : Nat) (hd : dst = some d) :
    ∃ v w', (Instr.buildSlice T n (parts.map fun (i, x) => (i, a.eval x))).run c.P w = .ok v w' ∧ PRes c B G s w h tm d k v w' := by
  unfold pkBuildSlice at hp
  split at hp
  · rename_i el hT
    have hT' := td_sl hT
    simp only [Option.bind_eq_some_iff] at hp
    obtain ⟨ops, hops, hp⟩ := hp
    split at hp
    · rename_i hcond
      obtain ⟨hidx, hn, hcl, hel, hag⟩ := hcond
      obtain ⟨i, z, hi, hz0, hzs, h0, hby, hcs⟩ := elOk_some hel
      have he : ∃ zz, eval s (.lit (ops.1.map (tyE (isAggT c.P el) (c.P.cellsOf el)))) = some zz := by
        unfold ownOr at hp
        subst hd
        simp only at hp
        split at hp <;> (simp only [Option.some.injEq, Prod.mk.injEq] at hp; obtain ⟨_, rfl⟩ := hp; exact hes _ (List.Mem.head _))
      obtain ⟨zz, hzz⟩ := he
      have hzz0 := hzz
      simp only [eval, Option.map_eq_some_iff] at hzz
      obtain ⟨zs, hzs', rfl⟩ := hzz
      obtain ⟨hl, hx⟩ := opsF_rd hr hC (by omega) hops hzs'
      have hlen : parts.toList.length = n := by
        have := congrArg List.length hidx
        simpa using this
      have hln : zs.length = n := by rw [hl, List.length_map, hlen]
      have hpi : ∀ (q : Nat) (p : Nat × Operand), parts.toList[q]? = some p → p.1 = q := by
        intro q p hq
        have h1 : (parts.toList.map (·.1))[q]? = some p.1 := by rw [List.getElem?_map, hq]; rfl
        rw [hidx, List.getElem?_range] at h1
        · simpa using h1.symm
        · have := (List.getElem?_eq_some_iff.1 hq).1; omega
      have hfit1 : ∀ z, (∀ l, z ≠ V.tup l) → (isAggT c.P el = true → z.cells.length = c.P.cellsOf el) → (isAggT c.P el = false → z.one = true) → z.cells.length = c.P.cellsOf el := by
        intro z h1 h2 h3
        rcases hag with hag | hag
        · exact h2 hag
        · cases hh : isAggT c.P el with
          | true => exact h2 hh
          | false => rw [one_cells (h3 hh), hag]; rfl
      have hpart : ∀ (q : Nat) (p : Nat × Operand), parts.toList[q]? = some p → ∃ z, zs[q]? = some z ∧ z.fits (c.P.cellsOf el) ∧ (a.eval p.2).cells.size = c.P.cellsOf el ∧ ∀ (j : Nat) (ck : V), z.cells[j]? = some ck → Rd w (h.ext ops.2) ck ((a.eval p.2).cells.getD j undef) := by
        intro q p hq
        obtain ⟨z, e1, e2, e3, e4, e5⟩ := hx q p.2 (by rw [List.getElem?_map, hq]; rfl)
        obtain ⟨s1, s2, s3⟩ := e5.cells e2
        have hc := hfit1 z e2 e3 e4
        exact ⟨z, e1, ⟨hc, s2⟩, by rw [s1, hc], s3⟩
      have hfit : ∀ x ∈ zs, x.fits (c.P.cellsOf el) := by
        intro x hxm
        obtain ⟨q, hq⟩ := List.getElem?_of_mem hxm
        have hlt : q < parts.toList.length := by have := (List.getElem?_eq_some_iff.1 hq).1; omega
        obtain ⟨z, e1, e2, _⟩ := hpart q _ (List.getElem?_eq_getElem hlt)
        rw [hq] at e1; cases e1
        exact e2
      have hbase : ((Array.range (n * i.size)).map (fun x => z.cells[x % z.cells.size]!)).size = n * i.size := by simp
      obtain ⟨R, hR, hRs, _, hRin⟩ := fill_spec (fun q => some (q * i.size, i.size)) (parts.toList.map fun p => (p.1, a.eval p.2)) ((Array.range (n * i.size)).map (fun x => z.cells[x % z.cells.size]!)) (by
        intro p hp
        obtain ⟨p', hp', rfl⟩ := List.mem_map.1 hp
        obtain ⟨q, hq⟩ := List.getElem?_of_mem hp'
        obtain ⟨_, _, _, e3, _⟩ := hpart q p' hq
        have hqi := hpi q p' hq
        have hlt : q < n := by have := (List.getElem?_eq_some_iff.1 hq).1; omega
        refine ⟨p'.1 * i.size, by simp only; rw [e3, hcs], ?_⟩
        simp only
        rw [e3, hcs, hqi, hbase, ← Nat.succ_mul]
        exact Nat.mul_le_mul_right _ hlt)
      rw [hbase] at hRs
      have hpow : ¬ (n * i.size > 2 ^ 24) := by
        have : n * i.size ≤ 256 * 256 := Nat.mul_le_mul (by omega) (by omega)
        omega
      have hnk : n * i.size = 0 ∨ n * i.size ≠ 0 := by omega
      have hrun : (Instr.buildSlice T n (parts.map fun (i, x) => (i, a.eval x))).run c.P w = .ok (.slice (some ⟨w.heap.size, 0, none⟩) n n) (w.alloc (.cells R el)) := by
        have hpow' : ¬ (16777216 < n * i.size) := by omega
        rcases hnk with hnk | hnk
        · have hn0 : n = 0 := by
            rcases Nat.mul_eq_zero.1 hnk with hh | hh
            · exact hh
            · omega
          subst hn0
          have hpe : parts = #[] := by
            have : parts.size = 0 := by simpa using hlen
            exact Array.eq_empty_of_size_eq_zero this
          subst hpe
          have hRe : R = #[] := by
            have : R.size = 0 := by simpa using hRs
            exact Array.eq_empty_of_size_eq_zero this
          subst hRe
          simp [Instr.buildSlice, run_underlying hT', run_szOf hi, Instr.fill, newRow, Array.range_zero']
        · simp [Instr.buildSlice, run_underlying hT', run_szOf hi, hpow', hnk, run_zeroValue hi hz0, hR, newRow]
      refine ⟨_, _, hrun, ?_⟩
      have hg := World.grownBy_alloc w (.cells R el) none
      have hown := World.ownsRow_lit (base := w.heap.size) (e := el) (size := c.P.cellsOf el) w R n (Nat.le_refl _) (by simp only [maxLen]; omega) (by rw [hRs, hcs])
      rw [← hln] at hown ⊢
      refine newList hr.ok hg hzz0 (by omega) hfit hown (fun j ck hj => ?_) hp tm d hd
      obtain ⟨q, r, y, hq, hrk, rfl, hyc⟩ := flat_split hfit (by omega) hj
      have hlt : q < parts.toList.length := by have := (List.getElem?_eq_some_iff.1 hq).1; omega
      obtain ⟨y', e1, e2, e3, e4⟩ := hpart q _ (List.getElem?_eq_getElem hlt)
      rw [hq] at e1; cases e1
      have hqi := hpi q _ (List.getElem?_eq_getElem hlt)
      obtain ⟨pre, suf, hps⟩ : ∃ pre suf, parts.toList = pre ++ parts.toList[q] :: suf := List.append_of_mem (List.getElem_mem hlt)
      have hsz3 : (a.eval parts.toList[q].2).cells.size = i.size := by rw [e3, hcs]
      have hin := hRin ((parts.toList.take q).map fun p => (p.1, a.eval p.2)) (parts.toList[q].1, a.eval parts.toList[q].2) ((parts.toList.drop (q + 1)).map fun p => (p.1, a.eval p.2)) (by
        rw [← List.map_cons (f := fun (p : Nat × Operand) => (p.1, a.eval p.2)), ← List.map_append]
        congr 1
        rw [← List.drop_eq_getElem_cons hlt, List.take_append_drop]) (q * i.size) (by simp only; rw [hqi, hsz3]) (by
        intro p hp o n' ho
        obtain ⟨p', hp', rfl⟩ := List.mem_map.1 hp
        obtain ⟨m, hm⟩ := List.getElem?_of_mem hp'
        rw [List.getElem?_drop] at hm
        have := hpi _ _ hm
        simp only [Option.some.injEq, Prod.mk.injEq] at ho
        obtain ⟨rfl, rfl⟩ := ho
        left
        simp only
        rw [hsz3, this, ← Nat.succ_mul]
        exact Nat.mul_le_mul_right _ (by omega)) r (by simp only; rw [hsz3]; omega)
      refine ⟨(a.eval parts.toList[q].2).cells.getD r undef, ?_, e4 r ck hyc⟩
      rw [Array.getElem?_toList, hcs, hin]
      have hlt2 : r < (a.eval parts.toList[q].2).cells.size := by omega
      simp only [Array.getD_eq_getD_getElem?]
      rw [Array.getElem?_eq_getElem hlt2]
      rfl
    · simp at hp
  · simp at hp

/-! ### make -/
theorem toList_madeCells (z : Array Value) (n : Nat) (h0 : 0 < z.size) (j : Nat) (hj : j < n) : (madeCells z n).toList[j]? = z[j % z.size]? := by
  have : j % z.size < z.size := Nat.mod_lt _ h0
  simp [madeCells, hj, this]
theorem sameOp_int (hr : RelG c B G s a w h g) {n m : Operand} (hs : sameOp n m = true) {k : IntKind} {q : Int} (hn : a.eval n = .int k q) : ∃ k', a.eval m = .int k' q := by
  unfold sameOp at hs
  split at hs
  · simp only [beq_iff_eq] at hs
    subst hs
    exact ⟨k, hn⟩
  · rename_i k1 x k2 y
    simp only [beq_iff_eq] at hs
    subst hs
    simp only [Act.eval, Value.int.injEq] at hn
    exact ⟨k2, by simp [Act.eval, hn.2]⟩
  · cases hs
theorem pkMake_run (hr : RelG c B G s a w h g) (hC : holds s (ixC c C)) {T : TypeId} {n m : Operand} {dst : Option Nat} {k : TK} {es : List E} (hp : pkMake c g C dst T n m = some (k, es)) (hes : ∀ e ∈ es, ∃ z, eval s e = some z) (tm : Nat → Option Value) (d : Nat) (hd : dst = some d) :
    ∃ v w', (Instr.makeSlice T (a.eval n) (a.eval m)).run c.P w = .ok v w' ∧ PRes c B G s w h tm d k v w' := by
  unfold pkMake at hp
  split at hp
  · rename_i el hT
    have hT' := td_sl hT
    simp only [Option.bind_eq_some_iff] at hp
    obtain ⟨zs, hz, ⟨e, sh⟩, he, hp⟩ := hp
    split at hp
    · rename_i hcond
      simp only [Bool.and_eq_true, Bool.or_eq_true, beq_iff_eq] at hcond
      obtain ⟨⟨hso, hel⟩, hag⟩ := hcond
      obtain ⟨i, z, hi, hz0, hzs, h0, hby, hcs⟩ := elOk_some hel
      obtain ⟨i', z', hi', hz0', hzs', hcells⟩ := zeroCells_some hz
      rw [hi] at hi'; cases hi'
      rw [hz0] at hz0'; cases hz0'
      have hev : ∃ zz, eval s (.mk (if isAggT c.P el then .agg zs else zs.headD (.agg [])) e) = some zz := by
        unfold ownOr at hp
        subst hd
        simp only at hp
        split at hp <;> (simp only [Option.some.injEq, Prod.mk.injEq] at hp; obtain ⟨_, rfl⟩ := hp; exact hes _ (List.Mem.head _))
      obtain ⟨zz, hzz⟩ := hev
      have hzz0 := hzz
      obtain ⟨y, hy, hyr⟩ := opE_rd hr hC he
      simp only [eval, hy, Option.bind_some] at hzz
      generalize hzv : (if isAggT c.P el then V.agg zs else zs.headD (.agg [])) = zv at *
      unfold mkV at hzz
      split at hzz
      · rename_i ki q
        split at hzz
        · rename_i hq
          obtain ⟨hq0, hq1⟩ := hq
          obtain ⟨q, rfl⟩ := Int.eq_ofNat_of_zero_le hq0
          simp only [Option.some.injEq, Int.toNat_natCast] at hzz
          subst hzz
          have hlim : q ≤ 4294967296 := by simp only [lim] at hq1; omega
          have hn := hyr.int_eq
          obtain ⟨k', hm⟩ := sameOp_int hr hso hn
          rw [hn, hm]
          have hb : i.bytes * q ≤ 281474976710656 := by
            have : i.bytes * q ≤ 32768 * 4294967296 := Nat.mul_le_mul hby hlim
            omega
          obtain ⟨w', hrun, hown, hg⟩ := run_make_full (P := c.P) w w.heap.size T el i z i.size hT' hi hz0 rfl ki k' q hb (by simp only [maxLen]; omega) (Nat.le_refl _)
          refine ⟨_, _, hrun, ?_⟩
          have hzc : zv.cells = zs := by
            rw [← hzv]
            rcases hag with hag | hag
            · rw [if_pos hag]; rfl
            · split
              · rfl
              · have h1 : zs.length = 1 := hag
                match zs, h1, hcells, hzs' with
                | [x], _, hcells, hzs' =>
                  simp only [List.headD_cons]
                  obtain ⟨x', hx', hc⟩ := hcells 0 (z.cells[0]'(by rw [hzs']; simp)) (Array.getElem?_eq_getElem _)
                  simp at hx'; subst hx'
                  exact one_cells (cellV_one hc)
          have hcell : ∀ (j : Nat) (ck : V), zs[j]? = some ck → ∃ u, z.cells[j]? = some u ∧ cellV u = some ck := by
            intro j ck hj
            have hlt : j < z.cells.size := by rw [hzs']; exact (List.getElem?_eq_some_iff.1 hj).1
            obtain ⟨x', hx', hc⟩ := hcells j _ (Array.getElem?_eq_getElem hlt)
            rw [hj] at hx'; cases hx'
            exact ⟨_, Array.getElem?_eq_getElem hlt, hc⟩
          have hzfit : zv.fits (c.P.cellsOf el) := by
            refine ⟨by rw [hzc, ← hzs', hzs, hcs], fun ck hck => ?_⟩
            rw [hzc] at hck
            obtain ⟨j, hj⟩ := List.getElem?_of_mem hck
            obtain ⟨u, _, hc⟩ := hcell j ck hj
            exact cellV_one hc
          have hfit : ∀ x ∈ List.replicate q zv, x.fits (c.P.cellsOf el) := fun x hx => by rw [List.eq_of_mem_replicate hx]; exact hzfit
          rw [← hcs] at hown
          have hown2 : w'.ownsRow w.heap.size el (c.P.cellsOf el) (.slice (some ⟨w.heap.size, 0, none⟩) q q) (List.replicate q zv).length (madeCells z.cells (q * c.P.cellsOf el)).toList := by rw [List.length_replicate]; exact hown
          refine newList hr.ok hg hzz0 (by omega) hfit hown2 (fun j ck hj => ?_) hp tm d hd
          obtain ⟨p, r, y', hp', hrk, rfl, hyc⟩ := flat_split hfit (by omega) hj
          have hpq : p < q := by simpa using (List.getElem?_eq_some_iff.1 hp').1
          have hy' : y' = zv := List.eq_of_mem_replicate (List.mem_of_getElem? hp')
          subst hy'
          rw [hzc] at hyc
          obtain ⟨u, hu, hc⟩ := hcell r ck hyc
          refine ⟨u, ?_, cellV_rd hc _ _⟩
          have hle : p * c.P.cellsOf el + c.P.cellsOf el ≤ q * c.P.cellsOf el := by rw [← Nat.succ_mul]; exact Nat.mul_le_mul_right _ hpq
          rw [toList_madeCells _ _ (by omega) _ (by omega), hzs, ← hcs, Nat.mul_comm p, Nat.mul_add_mod, Nat.mod_eq_of_lt hrk]
          exact hu
        · simp at hzz
      · simp at hzz
    · simp at hp
  · simp at hp
end
end Vm
