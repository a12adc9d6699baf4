/-
  append; what yields a value without being told more; one operation that turns its own temporary.
-/
import Derived.Test.YtbmgnmjghhakhaaVk
namespace Vm
open Go
open Go.RowKit (Below)
open Go.MapKept (IsKey bytes_beq sameNow_of_keys run_checkKey run_findKey run_keyThatStays)
set_option linter.unusedSimpArgs false
set_option linter.unusedVariables false
section
variable {c : Ctx} {B : Nat} {G : Nat → Prop} {s : St} {a : Act} {w w' : World} {h : GH} {g : Gam} {C : Conds}

theorem run_append_none {P : Program} {t ty e : TypeId} {i : TypeInfo} (ht : P.underlying t = some (.slice e)) (hi : P.info? e = some i) {size : Nat} {v : Value} {n : Nat} {xs : List Value} (hown : w.ownsRow B e size v n xs) (cp : Nat) :
    (Builtin.append_ #[t, t] ty #[v, .slice none 0 cp]).run P w = .ok v w := by
  rcases hown.2 with ⟨rfl, rfl⟩ | ⟨g, cap, cur, rfl, _, _, hnc, _⟩
  · simp [Builtin.append_, run_underlying ht, Go.sizeOf, typeInfo, hi, Builtin.lenOf, Builtin.firstCells]
  · simp [Builtin.append_, run_underlying ht, Go.sizeOf, typeInfo, hi, Builtin.lenOf, Builtin.firstCells, hnc, storeCells]

/-- onto a list of the call's own: the same block, or a new one -/
theorem run_appendO {P : Program} {t ty e : TypeId} (ht : P.underlying t = some (.slice e)) (hel : elOk P e = true) {v : Value} {n : Nat} {xs : List Value} (hown : w.ownsRow B e (P.cellsOf e) v n xs) (hB : B ≤ w.heap.size)
    {Gy : Nat → Prop} {l : List V} {y : Value} (hy : Rd w Gy (.sl l) y) (hk : sizeOk (P.cellsOf e) l = true) (hlim : n + l.length ≤ lim) :
    ∃ v' w' news, (Builtin.append_ #[t, t] ty #[v, y]).run P w = .ok v' w' ∧ w'.ownsRow B e (P.cellsOf e) v' (n + l.length) (xs ++ news) ∧ w.grownBy w' v.ownBlock ∧
      (v'.ownBlock = v.ownBlock ∨ (w.grownBy w' none ∧ w'.ownsRow w.heap.size e (P.cellsOf e) v' (n + l.length) (xs ++ news))) ∧
      (∀ x ∈ l, x.fits (P.cellsOf e)) ∧ ∀ (i : Nat) (ck : V), (flat l)[i]? = some ck → ∃ u, news[i]? = some u ∧ Rd w Gy ck u := by
  obtain ⟨i, z, hi, hz, hzs, h0, hby, hcs⟩ := elOk_some hel
  have hsl := sizeOk_spec hk
  -- the new cells
  have hnew : (∃ cp, y = .slice none 0 cp ∧ l = []) ∨ ∃ ad cp, ∃ news : List Value, y = .slice (some ad) l.length cp ∧ news.length = l.length * P.cellsOf e ∧ (∀ j u, news[j]? = some u → w.cell? (ad.add j) = some u) ∧ (∀ u ∈ news, u.oneCell' = true) ∧
      (∀ x ∈ l, x.fits (P.cellsOf e)) ∧ ∀ (i : Nat) (ck : V), (flat l)[i]? = some ck → ∃ u, news[i]? = some u ∧ Rd w Gy ck u := by
    cases hy with
    | nil ad cp hc =>
      cases ad with
      | none => exact .inl ⟨cp, rfl, rfl⟩
      | some ad => exact .inr ⟨ad, cp, [], rfl, by simp, fun j u hj => by simp at hj, fun u hu => by simp at hu, fun x hx => by simp at hx, fun i ck hi => by simp [flat] at hi⟩
    | sl _ b o cap kk vs h1 h2 h3 h4 h5 h6 =>
      refine .inr ⟨⟨b, o, none⟩, cap, (List.range (l.length * P.cellsOf e)).map vs, rfl, by simp, ?_⟩
      by_cases hl : l = []
      · subst hl
        exact ⟨fun j u hj => by simp at hj, fun u hu => by simp at hu, fun x hx => by simp at hx, fun i ck hi => by simp [flat] at hi⟩
      · obtain ⟨x, hx⟩ := List.exists_mem_of_ne_nil l hl
        have hkk : kk = P.cellsOf e := by rw [← (h4 x hx).1, hsl x hx]
        subst hkk
        have hlenf := flat_length h4
        refine ⟨fun j u hj => ?_, fun u hu => ?_, h4, fun i ck hi => ?_⟩
        · have hlt : j < l.length * P.cellsOf e := by simpa using (List.getElem?_eq_some_iff.1 hj).1
          have : vs j = u := by simpa [hlt] using hj
          rw [Addr.add_lit, ← this]
          exact h5 j hlt
        · obtain ⟨j, hj, rfl⟩ := List.mem_map.1 hu
          have hlt := List.mem_range.1 hj
          have hf : (flat l)[j]? = some ((flat l)[j]'(by omega)) := List.getElem?_eq_getElem _
          have hr := h6 j _ hf
          rw [hr.one_eq]
          obtain ⟨x, hx, hcx⟩ := flat_getElem? hf
          exact (h4 x hx).2 _ hcx
        · have hlt : i < l.length * P.cellsOf e := by rw [← hlenf]; exact (List.getElem?_eq_some_iff.1 hi).1
          exact ⟨vs i, by simp [hlt], h6 i ck hi⟩
  rcases hnew with ⟨cp, rfl, rfl⟩ | ⟨ad, cp, news, rfl, hl, hnews, h1, hfit, hrd⟩
  · refine ⟨v, w, [], run_append_none ht hi hown cp, by simpa using hown, ⟨rfl, rfl, rfl, Nat.le_refl _, fun _ _ _ => rfl⟩, .inl rfl, fun x hx => by simp at hx, fun i ck hi => by simp [flat] at hi⟩
  · simp only [lim] at hlim
    have h63 : n + l.length ≤ maxLen := by simp only [maxLen]; omega
    have hbytes : (n + l.length) * i.bytes ≤ 140737488355328 := by
      have : (n + l.length) * i.bytes ≤ 4294967296 * 32768 := Nat.mul_le_mul hlim hby
      omega
    have hlen : (xs ++ news).length = (n + l.length) * P.cellsOf e := by rw [List.length_append, hown.1, hl, Nat.add_mul]
    have grown : ∀ (old : Nat), old < n + l.length → ∀ (row : Option Nat) (cs : Array Value), cs = xs.toArray ++ news.toArray →
        (w.drew.alloc (.cells (cs ++ Builtin.zeroCells z.cells (grownCap w (n + l.length) old e - (n + l.length))) e)).ownsRow w.heap.size e (P.cellsOf e)
          (.slice (some ⟨w.heap.size, 0, none⟩) (n + l.length) (grownCap w (n + l.length) old e)) (n + l.length) (xs ++ news) ∧
        w.grownBy (w.drew.alloc (.cells (cs ++ Builtin.zeroCells z.cells (grownCap w (n + l.length) old e - (n + l.length))) e)) row := by
      rintro old ho row cs rfl
      have hge := grownCap_ge w (n + l.length) old e
      have hcm : grownCap w (n + l.length) old e ≤ maxLen := grownCap_le_maxLen w (n + l.length) old e h63
      refine ⟨⟨hlen, .inr ⟨w.heap.size, _, _, rfl, Nat.le_refl _, heap_alloc_new w.drew _, hge, hcm, ?_, ?_⟩⟩, ⟨rfl, rfl, rfl, by simp, fun k hk _ => Below.heap_alloc w.drew _ k hk⟩⟩
      · simp only [Array.size_append, List.size_toArray, size_zeroCells, hzs, hown.1, hl, hcs, ← Nat.add_mul]
        congr 1
        omega
      · simp only [Array.toList_append, List.append_assoc]
        rw [← List.append_assoc, ← hlen]
        exact List.take_left
    rcases hown.2 with ⟨rfl, rfl⟩ | ⟨g, cap, cur, rfl, hbg, hg, hnc, hcm, hcsz, htake⟩
    · have hx : xs = [] := List.eq_nil_of_length_eq_zero (by simpa using hown.1)
      subst hx
      by_cases hm : l.length = 0
      · have hn : news = [] := List.eq_nil_of_length_eq_zero (by rw [hl, hm, Nat.zero_mul])
        subst hn
        refine ⟨.slice none 0 0, w, [], ?_, by rw [hm]; exact World.ownsRow_nil w B e _, ⟨rfl, rfl, rfl, Nat.le_refl _, fun _ _ _ => rfl⟩, .inl rfl, hfit, hrd⟩
        simp [Builtin.append_, run_underlying ht, Go.sizeOf, typeInfo, hi, Builtin.lenOf, hm, Builtin.firstCells, loadCells, loadCellsFrom]
      · have hr := run_append_nil (P := P) w t ty e i z ht hi hz ad l.length cp news (by rw [hl, hcs]) hnews (by omega) (by omega) (by simp only [Nat.zero_add] at hbytes; omega)
        have hgr := grown 0 (by omega)
        simp only [Nat.zero_add, List.nil_append] at hgr ⊢
        obtain ⟨g1, g2⟩ := hgr none news.toArray (by simp)
        exact ⟨_, _, news, hr, ownsRow_base g1 hB, (hgr _ news.toArray (by simp)).2, .inr ⟨g2, g1⟩, hfit, hrd⟩
    · by_cases hroom : n + l.length ≤ cap
      · obtain ⟨w', hr, ho, hgr⟩ := run_append_fits (P := P) w B t ty e i (P.cellsOf e) ht hi hcs.symm g n cap xs hown ad l.length cp news hl hnews h1 hroom
        exact ⟨_, _, news, hr, ho, hgr, .inl rfl, hfit, hrd⟩
      · have holds : ∀ j u, xs[j]? = some u → w.cell? ((⟨g, 0, none⟩ : Addr).add j) = some u := hown.cells (g := g) rfl
        have hr := run_append_grow (P := P) w t ty e i z ht hi hz ⟨g, 0, none⟩ n cap xs (by rw [hown.1, hcs]) holds ad l.length cp news (by rw [hl, hcs]) hnews (by omega) (by omega) (growslice_fits (by omega) hbytes)
        have hgr := grown cap (by omega)
        obtain ⟨g1, g2⟩ := hgr none _ rfl
        exact ⟨_, _, news, hr, ownsRow_base g1 hB, (hgr _ _ rfl).2, .inr ⟨g2, g1⟩, hfit, hrd⟩

theorem appV_some {k : Nat} {x y z : V} (hz : appV k x y = some z) : ∃ l r, x = .sl l ∧ y = .sl r ∧ l.length + r.length ≤ lim ∧ sizeOk k r = true ∧ z = .sl (l ++ r) := by
  unfold appV at hz
  split at hz
  · split at hz
    · rename_i hc
      simp only [Option.some.injEq] at hz
      exact ⟨_, _, rfl, rfl, hc.1, hc.2, hz.symm⟩
    · simp at hz
  · simp at hz
theorem flsV_some {x z : V} (hz : flsV x = some z) : x = z ∧ ∃ l, z = .sl l ∧ ∀ y ∈ Vm.flat l, y.flatc = true := by
  unfold flsV at hz
  split at hz
  · rename_i l
    split at hz
    · rename_i hall
      simp only [Option.some.injEq] at hz
      exact ⟨hz, l, hz.symm, fun y hy => List.all_eq_true.1 hall y hy⟩
    · simp at hz
  · simp at hz
/-- elements that are copied -/
theorem elems_rd (hr : RelG c B G s a w h g) (hC : holds s (ixC c C)) {x : Operand} {b0 : E × List Nat} (hx : opE g C x = some b0) {fl : Bool} {z : V} (hz : eval s (elemsE fl b0).1 = some z) :
    ∃ G', Rd w G' z (a.eval x) ∧ ∀ l, z = .sl l → ∀ (i : Nat) (ck : V) (u : Value), (flat l)[i]? = some ck → Rd w G' ck u → Rd w (h.ext (elemsE fl b0).2) ck u := by
  obtain ⟨y, hy, hyr⟩ := opE_rd hr hC (show opE g C x = some (b0.1, b0.2) from hx)
  unfold elemsE at hz ⊢
  split
  · rename_i hb
    rw [if_pos hb, hy] at hz; cases hz
    exact ⟨_, hyr, fun l hl i ck u _ hu => hu⟩
  · rename_i hb
    rw [if_neg hb] at hz
    split
    · rename_i hfl
      rw [if_pos hfl] at hz
      simp only [eval, hy, Option.bind_some] at hz
      obtain ⟨rfl, l, rfl, hall⟩ := flsV_some hz
      refine ⟨_, hyr, fun l' hl' i ck u hi hu => ?_⟩
      cases hl'
      exact hu.flat (hall ck (List.mem_of_getElem? hi))
    · rename_i hfl
      rw [if_neg hfl, hy] at hz; cases hz
      exact ⟨_, hyr, fun l hl i ck u _ hu => hu⟩

theorem ownOr_e {dst : Option Nat} {d : Nat} (hd : dst = some d) {el : TypeId} {e : E} {sh : List Nat} {k : TK} {es : List E} (ho : ownOr c dst el e sh = some (k, es)) (hes : ∀ e ∈ es, ∃ z, eval s e = some z) : ∃ z, eval s e = some z := by
  unfold ownOr at ho
  subst hd
  simp only at ho
  split at ho <;> (simp only [Option.some.injEq, Prod.mk.injEq] at ho; obtain ⟨_, rfl⟩ := ho; exact hes _ (List.Mem.head _))

theorem pkAppend_run (hr : RelG c B G s a w h g) (hC : holds s (ixC c C)) {T U ty : TypeId} {x y : Operand} {dst : Option Nat} {k : TK} {es : List E} (hp : pkAppend c g C dst T U x y = some (k, es)) (hes : ∀ e ∈ es, ∃ z, eval s e = some z) (tm : Nat → Option Value) (d : Nat) (hd : dst = some d) :
    ∃ v w', (Builtin.append_ #[T, U] ty #[a.eval x, a.eval y]).run c.P w = .ok v w' ∧ PRes c B G s w h tm d k v w' := by
  unfold pkAppend at hp
  split at hp
  · rename_i el hT
    have hT' := td_sl hT
    split at hp
    · rename_i hcond
      obtain ⟨rfl, hel⟩ := hcond
      split at hp
      · rename_i hk
        simp only [Option.bind_eq_some_iff] at hp
        obtain ⟨b0, hb, hp⟩ := hp
        rw [opK_nil hr hC hk]
        have hp' : ownOr c dst el (.app (.c (.sl [])) (elemsE (flatT c.P el) b0).1 (c.P.cellsOf el)) (elemsE (flatT c.P el) b0).2 = some (k, es) := by
          subst hd
          simp only at hp
          split at hp
          · simp at hp
          · exact hp
        obtain ⟨z, hz⟩ := ownOr_e hd hp' hes
        have hz0 := hz
        simp only [eval, Option.bind_some, Option.bind_eq_some_iff] at hz
        obtain ⟨yy, hyy, hz⟩ := hz
        obtain ⟨l0, r, hl0, rfl, hlim, hsz, rfl⟩ := appV_some hz
        cases hl0
        obtain ⟨G', hrd, hback⟩ := elems_rd hr hC hb hyy
        obtain ⟨i, zz, hi, hz1, hzs, h0, hby, hcs⟩ := elOk_some hel
        obtain ⟨v', w', news, hrun, hown, hg, hor, hfit, hnews⟩ := run_appendO (ty := ty) hT' hel (World.ownsRow_nil w w.heap.size el (c.P.cellsOf el)) (Nat.le_refl _) hrd hsz (by simpa using hlim)
        refine ⟨v', w', hrun, ?_⟩
        simp only [Nat.zero_add, List.nil_append] at hown
        exact newList hr.ok hg (by simpa using hz0) (by omega) hfit hown (fun i ck hi => by
          obtain ⟨u, hu, hru⟩ := hnews i ck hi
          exact ⟨u, hu, hback _ rfl i ck u hi hru⟩) hp' tm d hd
      · simp at hp
    · simp at hp
  · simp at hp

/-! ### All of them -/
theorem opE_V (hr : RelG c B G s a w h g) (hC : holds s (ixC c C)) {x : Operand} {b : E × List Nat} (he : opE g C x = some b) : ∃ y, eval s b.1 = some y ∧ Rd w (h.ext b.2) y (a.eval x) := opE_rd hr hC (show opE g C x = some (b.1, b.2) from he)

/-- an operation comes to its value, of its kind -/
def PRun (c : Ctx) (B : Nat) (G : Nat → Prop) (s : St) (a : Act) (w : World) (h : GH) (o : Oper) (d : Nat) (k : TK) : Prop :=
  ∃ v w', (execOp a.eval o).run c.P w = .ok (.value v) w' ∧ PRes c B G s w h (fun p => a.tmps[p]?) d k v w'
theorem PRun.of {o : Oper} {d : Nat} {k : TK} {m : Sem Value} (he : execOp a.eval o = (do pure (.value (← m)))) (hm : ∃ v w', m.run c.P w = .ok v w' ∧ PRes c B G s w h (fun p => a.tmps[p]?) d k v w') : PRun c B G s a w h o d k := by
  obtain ⟨v, w', hrun, hres⟩ := hm
  exact ⟨v, w', by rw [he]; simp [hrun], hres⟩
theorem Has.pr (hok : Ok B G w h) {o : Oper} {d : Nat} {k : TK} {m : Sem Value} (he : execOp a.eval o = (do pure (.value (← m)))) (hm : Has c B s w h (fun p => a.tmps[p]?) d k m) : PRun c B G s a w h o d k := by
  obtain ⟨v, hrun, hk⟩ := hm
  exact PRun.of he ⟨v, w, hrun, PRes.here hok hk⟩

theorem pkBin_run (hr : RelG c B G s a w h g) (hC : holds s (ixC c C)) {op : BinOp} {T : TypeId} {x y : Operand} {k : TK} {es : List E} (hp : pkBin c g C op T x y = some (k, es)) (hes : ∀ e ∈ es, ∃ z, eval s e = some z) (d : Nat) :
    Has c B s w h (fun p => a.tmps[p]?) d k (do eqGuard op T x y (a.eval x) (a.eval y); binOp op T (a.eval x) (a.eval y)) := by
  unfold pkBin at hp
  simp only [Option.bind_eq_some_iff, Option.map_eq_some_iff, Prod.mk.injEq] at hp
  obtain ⟨ea, ha, eb, hb, rfl, rfl⟩ := hp
  obtain ⟨u, hu, hur⟩ := opE_V hr hC ha
  obtain ⟨v, hv, hvr⟩ := opE_V hr hC hb
  obtain ⟨z, hz⟩ := hes _ (List.Mem.head _)
  have hz0 := hz
  have fin : ∀ {m : Sem Value}, (∃ r, m.run c.P w = .ok r w ∧ Rd w h.F z r) → Has c B s w h (fun p => a.tmps[p]?) d (.val (binE c.P T op ea.1 eb.1) []) m := by
    rintro m ⟨r, hr1, hr2⟩
    exact ⟨r, hr1, z, hz0, hr2.mono fun b hb => GH.ext_F hb⟩
  have plain : eval s (.bin op ea.1 eb.1) = some z → Has c B s w h (fun p => a.tmps[p]?) d (.val (binE c.P T op ea.1 eb.1) []) (do eqGuard op T x y (a.eval x) (a.eval y); binOp op T (a.eval x) (a.eval y)) := by
    intro hz
    simp only [eval, hu, hv, Option.bind_some] at hz
    exact fin (run_binV hz hur hvr T x y)
  unfold binE at hz
  split at hz
  · rename_i hT
    split at hz
    · simp only [eval, hu, hv, Option.bind_some] at hz
      exact fin (run_eqV (neg := false) hz hur hvr hT x y)
    · simp only [eval, hu, hv, Option.bind_some] at hz
      exact fin (run_eqV (neg := true) hz hur hvr hT x y)
    · exact plain hz
  · exact plain hz

theorem pkOne {x z : V} {e : E} {d : Nat} {sh : List Nat} {m : Sem Value} (hz : eval s e = some z) (hm : ∃ r, m.run c.P w = .ok r w ∧ Rd w (h.ext sh) z r) (tm : Nat → Option Value) : Has c B s w h tm d (.val e sh) m := by
  obtain ⟨r, h1, h2⟩ := hm
  exact ⟨r, h1, z, hz, h2⟩
theorem rdF_ext {m : Sem Value} {z : V} (hm : ∃ r, m.run c.P w = .ok r w ∧ Rd w h.F z r) (sh : List Nat) : ∃ r, m.run c.P w = .ok r w ∧ Rd w (h.ext sh) z r := by
  obtain ⟨r, h1, h2⟩ := hm
  exact ⟨r, h1, h2.mono fun b hb => GH.ext_F hb⟩

/-! ### Functions' values -/
theorem capsOf_rel (hr : RelG c B G s a w h g) (hC : holds s (ixC c C)) : ∀ {l : List Operand} {ts : List Nat}, capsOf g C l = some ts → ts.length = l.length ∧ ∀ (i p : Nat), ts[i]? = some p → ∃ x b, l[i]? = some x ∧ h.bl p 0 = some b ∧ a.eval x = .pointer (some ⟨b, 0, none⟩)
  | [], ts, hc => by
    simp only [capsOf, Option.some.injEq] at hc
    subst hc
    exact ⟨rfl, fun i p hi => by simp at hi⟩
  | x :: l, ts, hc => by
    simp only [capsOf] at hc
    split at hc
    · rename_i t cs hk
      simp only [Option.map_eq_some_iff] at hc
      obtain ⟨us, hus, rfl⟩ := hc
      obtain ⟨h1, h2⟩ := capsOf_rel hr hC hus
      obtain ⟨v, hv, ⟨b, vs, T, e1, e2, _⟩, _⟩ := hr.look hC (show look g C t = _ from hk) rfl
      refine ⟨by simp [h1], fun i p hi => ?_⟩
      cases i with
      | zero => simp at hi; subst hi; exact ⟨_, b, rfl, e1, by rw [Act.eval_tmp a t v hv]; exact e2⟩
      | succ i => simpa using h2 i p (by simpa using hi)
    · cases hc
theorem pkMakeFunc_run (hr : RelG c B G s a w h g) (hC : holds s (ixC c C)) {f : Go.Fn} {first captured : Array Operand} {k : TK} {es : List E} (hp : pkMakeFunc g C f first.toList captured.toList = some (k, es)) (d : Nat) :
    Has c B s w h (fun p => a.tmps[p]?) d k (Instr.makeFunc f (first.map a.eval) (captured.map a.eval)) := by
  unfold pkMakeFunc at hp
  split at hp
  · rename_i f' h1 h2
    simp only [Option.some.injEq, Prod.mk.injEq] at hp
    obtain ⟨rfl, rfl⟩ := hp
    have e1 : first = #[] := Array.toList_inj.1 (by simpa using h1)
    have e2 : captured = #[] := Array.toList_inj.1 (by simpa using h2)
    subst e1 e2
    exact ⟨.func (.func f') #[] #[], by simp [Instr.makeFunc], .fn f', rfl, .fn f'⟩
  · rename_i f' h1 _
    simp only [Option.map_eq_some_iff, Prod.mk.injEq] at hp
    obtain ⟨ts, hts, rfl, rfl⟩ := hp
    have e1 : first = #[] := Array.toList_inj.1 (by simpa using h1)
    subst e1
    obtain ⟨hl, hall⟩ := capsOf_rel hr hC hts
    refine ⟨.func (.func f') #[] (captured.map a.eval), by simp [Instr.makeFunc], captured.map a.eval, rfl, by simpa using hl.symm, fun i p hi => ?_⟩
    obtain ⟨x, b, hx, hb, hev⟩ := hall i p hi
    exact ⟨b, hb, by rw [Array.getElem?_map]; rw [Array.getElem?_toList] at hx; rw [hx, Option.map_some, hev]⟩
  · cases hp

/-! ### Maps -/
theorem pkMakeMap_run (hok : Ok B G w h) {T : TypeId} {k : TK} {es : List E} (hp : pkMakeMap c T = some (k, es)) (tm : Nat → Option Value) (d : Nat) :
    ∃ v w', (Instr.makeMap T none).run c.P w = .ok v w' ∧ PRes c B G s w h tm d k v w' := by
  unfold pkMakeMap at hp
  split at hp
  · simp only [Option.some.injEq, Prod.mk.injEq] at hp
    obtain ⟨rfl, rfl⟩ := hp
    have hg := World.grownBy_alloc w (.map #[] 0) none
    obtain ⟨hok', hst⟩ := step_give hok hg d 1 (n := w.heap.size) (Nat.le_refl _) (by simp)
    refine ⟨.map (some w.heap.size), w.alloc (.map #[] 0), ?_, _, hst, hok', .mp 0 [] [], rfl, .inr ⟨0, [], [], w.heap.size, #[], 0, rfl, rfl, by simp [GH.give], hok.base, .inl rfl, heap_alloc_new w _, rfl, rfl, fun i c hi => by simp at hi, fun i c hi => by simp at hi⟩⟩
    rfl
  · cases hp
theorem zeroV_rd {P : Program} {T : TypeId} {x : V} (hz : zeroV P T = some x) : ∃ z, (∀ w : World, (zeroValue T).run P w = .ok z w) ∧ ∀ (w : World) (G : Nat → Prop), Rd w G x z := by
  unfold zeroV at hz
  simp only [Option.bind_eq_some_iff] at hz
  obtain ⟨z, ⟨i, hi, hz0⟩, hm⟩ := hz
  refine ⟨z, fun w => run_zeroValue hi hz0 w, fun w G => ?_⟩
  split at hm
  · rename_i cs
    simp only [Option.map_eq_some_iff] at hm
    obtain ⟨xs, hxs, rfl⟩ := hm
    obtain ⟨h1, h2⟩ := mapM_some hxs
    have key : ∀ (i : Nat) (c : V), xs[i]? = some c → cellV (cs.getD i undef) = some c := by
      intro i c hi
      have hlt : i < cs.size := by have := (List.getElem?_eq_some_iff.1 hi).1; rw [h1] at this; simpa using this
      obtain ⟨y, hy, hc⟩ := h2 i cs[i] (by simp [hlt])
      rw [hi] at hy; cases hy
      simpa [Array.getD_eq_getD_getElem?, hlt] using hc
    refine .agg xs cs (by simpa using h1.symm) (fun c hc => ?_) fun i c hi => cellV_rd (key i c hi) w G
    obtain ⟨i, hi⟩ := List.getElem?_of_mem hc
    exact cellV_one (key i c hi)
  · exact cellV_rd hm w G
def kcD : KC → TypeDesc
  | .b => .bool
  | .i k => .int k
  | .s => .string
theorem kcOf_some {P : Program} {t : TypeId} {kc : KC} (hk : kcOf P t = some kc) : P.underlying t = some (kcD kc) := by
  unfold kcOf at hk
  split at hk <;> first | (simp only [Option.some.injEq] at hk; subst hk; assumption) | cases hk
theorem isK_key {kc : KC} {k : V} (hk : isK kc k = true) {w : World} {G' : Nat → Prop} {v : Value} (hv : Rd w G' k v) : IsKey (kcD kc) v := by
  cases kc <;> cases hv <;> simp_all [isK, IsKey, kcD]
theorem keyEq_some {kc : KC} {k y : V} {r : Bool} (hk : isK kc k = true) (he : keyEq k y = some r) {w w2 : World} {G' G'' : Nat → Prop} {v u : Value} (hv : Rd w G' k v) (hu : Rd w2 G'' y u) : IsKey (kcD kc) u ∧ (r = true ↔ v = u) := by
  cases kc <;> cases hv <;> simp [isK] at hk <;> cases hu <;> simp [keyEq] at he
  · subst he; simp [IsKey, kcD]
  · obtain ⟨rfl, rfl⟩ := he
    simp [IsKey, kcD, hk]
  · subst he; simp [IsKey, kcD, bytes_beq]
/-- where a key stands in a list of keys, and among a map's entries -/
theorem findV_spec {kc : KC} {k : V} (hk : isK kc k = true) {w w2 : World} {G' G'' : Nat → Prop} {v : Value} (hv : Rd w G' k v) : ∀ {ks : List V} {l : List MapEntry} {r : Option Nat}, findV k ks = some r → ks.length = l.length →
    (∀ (i : Nat) (c : V), ks[i]? = some c → Rd w2 G'' c (l.getD i default).key) → ∀ n, match r with
      | none => Instr.findNow (kcD kc) v l n = some none
      | some j => ∃ e, l[j]? = some e ∧ e.key = v ∧ Instr.findNow (kcD kc) v l n = some (some (n + j, e.val))
  | [], l, r, hf, hl, _, n => by
    simp only [findV, Option.some.injEq] at hf
    subst hf
    have : l = [] := List.eq_nil_of_length_eq_zero hl.symm
    subst this
    rfl
  | y :: ks, [], r, _, hl, _, n => by simp at hl
  | y :: ks, e :: l, r, hf, hl, hrd, n => by
    simp only [findV] at hf
    have hy : Rd w2 G'' y e.key := by simpa using hrd 0 y rfl
    split at hf
    · rename_i he
      obtain ⟨h1, h2⟩ := keyEq_some hk he hv hy
      simp only [Option.some.injEq] at hf
      subst hf
      have hve := h2.1 rfl
      obtain ⟨q, hq, hiff⟩ := sameNow_of_keys (isK_key hk hv) h1
      have hq1 : q = true := hiff.2 hve
      subst hq1
      exact ⟨e, rfl, hve.symm, by simp [Instr.findNow, hq]⟩
    · rename_i he
      obtain ⟨h1, h2⟩ := keyEq_some hk he hv hy
      obtain ⟨q, hq, hiff⟩ := sameNow_of_keys (isK_key hk hv) h1
      have hq1 : q = false := by
        cases q with
        | false => rfl
        | true => have := h2.2 (hiff.1 rfl); cases this
      subst hq1
      simp only [Option.map_eq_some_iff] at hf
      obtain ⟨r', hr', rfl⟩ := hf
      have ih := findV_spec hk hv hr' (by simpa using hl) (fun i c hi => by simpa using hrd (i + 1) c (by simpa using hi)) (n + 1)
      cases r' with
      | none => simpa [Instr.findNow, hq] using ih
      | some j =>
        obtain ⟨e', e1, e2, e3⟩ := ih
        exact ⟨e', by simpa using e1, e2, by simp [Instr.findNow, hq, e3]; omega⟩
    · cases hf
theorem lookup_res {kc : KC} {k z y : V} {ks vs : List V} {id : Nat} {ok : Bool} (hy : lkV kc (.mp id ks vs) k z ok = some y) {l : List MapEntry} {w2 : World} {G' G'' : Nat → Prop} {kv zv : Value} (hk : Rd w G' k kv) (hz : ∀ (w : World) (G : Nat → Prop), Rd w G z zv) (h1 : ks.length = l.length) (h2 : vs.length = l.length)
    (h3 : ∀ (i : Nat) (c : V), ks[i]? = some c → Rd w2 G'' c (l.getD i default).key) (h4 : ∀ (i : Nat) (c : V), vs[i]? = some c → Rd w2 G'' c (l.getD i default).val) :
    isK kc k = true ∧ ∃ r, Instr.findNow (kcD kc) kv l 0 = some r ∧ Rd w2 G'' y (if ok then .tuple #[(match r with | some (_, v) => (v, true) | none => (zv, false)).1, .bool (match r with | some (_, v) => (v, true) | none => (zv, false)).2] else (match r with | some (_, v) => (v, true) | none => (zv, false)).1) := by
  have tup : ∀ {x : V} {v : Value} {b : Bool}, Rd w2 G'' x v → Rd w2 G'' (if ok then .tup [x, .bool b] else x) (if ok then .tuple #[v, .bool b] else v) := by
    intro x v b hx
    cases ok
    · exact hx
    · refine .tup _ _ rfl fun i c hi => ?_
      match i, hi with
      | 0, hi => simp at hi; subst hi; simpa using hx
      | 1, hi => simp at hi; subst hi; simpa using Rd.bool b
      | i + 2, hi => simp at hi
  unfold lkV at hy
  split at hy
  · cases hy
  rename_i hik
  have hik : isK kc k = true := by simpa using hik
  refine ⟨hik, ?_⟩
  simp only at hy
  split at hy
  · rename_i j hf
    obtain ⟨e, e1, e2, e3⟩ := findV_spec hik hk hf h1 h3 0
    simp only [Option.map_eq_some_iff] at hy
    obtain ⟨x, hx, rfl⟩ := hy
    refine ⟨_, e3, ?_⟩
    have := h4 j x hx
    rw [List.getD_eq_getElem?_getD, e1] at this
    exact tup this
  · rename_i hf
    have := findV_spec hik hk hf h1 h3 0
    simp only [Option.some.injEq] at hy
    subst hy
    exact ⟨_, this, tup (hz _ _)⟩
  · cases hy
theorem pkLookup_run (hr : RelG c B G s a w h g) (hC : holds s (ixC c C)) {T : TypeId} {x k : Operand} {ok : Bool} {kk : TK} {es : List E} (hp : pkLookup c g C T x k ok = some (kk, es)) (hes : ∀ e ∈ es, ∃ z, eval s e = some z) (d : Nat) :
    Has c B s w h (fun p => a.tmps[p]?) d kk (Instr.lookup T (a.eval x) (a.eval k) ok) := by
  unfold pkLookup at hp
  split at hp
  · rename_i kt el hT
    simp only [Option.bind_eq_some_iff, Option.map_eq_some_iff, Prod.mk.injEq] at hp
    obtain ⟨kc, hkc, z, hz, ea, ha, eb, hb, rfl, rfl⟩ := hp
    obtain ⟨u, hu, hur⟩ := opE_rd hr hC ha
    obtain ⟨v, hv, hvr⟩ := opE_rd hr hC hb
    obtain ⟨y, hy⟩ := hes _ (List.Mem.head _)
    have hy0 := hy
    simp only [eval, hu, hv, Option.bind_some] at hy
    obtain ⟨zv, hzr, hzrd⟩ := zeroV_rd hz
    have hkd := kcOf_some hkc
    generalize hav : a.eval x = av at hur
    cases hur with
    | nomp =>
      obtain ⟨hik, r, hf, hres⟩ := lookup_res (w2 := w) (G'' := h.ext ea.2) hy hvr hzrd (l := []) rfl rfl (fun i c hi => by simp at hi) (fun i c hi => by simp at hi)
      refine ⟨_, ?_, y, hy0, hres⟩
      have hck := run_checkKey (w := w) hkd (isK_key hik hvr)
      have hfk := run_findKey (w := w) hkd hf
      cases r with
      | none => simp [Instr.lookup, run_underlying hT, hck, hfk, hzr, Result.andThen]
      | some p => simp [Instr.lookup, run_underlying hT, hck, hfk, hzr, Result.andThen]
    | mp id ks xs b clk es h0 h1 h2 h3 h4 h5 h6 =>
      obtain ⟨hik, r, hf, hres⟩ := lookup_res (w2 := w) (G'' := h.ext ea.2) hy hvr hzrd (l := es.toList) (by simpa using h3) (by simpa using h4) (fun i c hi => by simpa [Array.getD_eq_getD_getElem?] using h5 i c hi) (fun i c hi => by simpa [Array.getD_eq_getD_getElem?] using h6 i c hi)
      refine ⟨_, ?_, y, hy0, hres⟩
      have hck := run_checkKey (w := w) hkd (isK_key hik hvr)
      have hfk := run_findKey (w := w) hkd hf
      cases r with
      | none => simp [Instr.lookup, run_underlying hT, MapKept.run_getObj_map h2, hck, hfk, hzr, Result.andThen]
      | some p => simp [Instr.lookup, run_underlying hT, MapKept.run_getObj_map h2, hck, hfk, hzr, Result.andThen]
    | _ => simp [lkV] at hy
  · cases hp
theorem run_mlenV {x z : V} (hz : mlenV x = some z) {G' : Nat → Prop} {v : Value} (hv : Rd w G' x v) {T ty k e : TypeId} (hT : c.P.underlying T = some (.map k e)) :
    ∃ r, (Builtin.len_ #[T] ty #[v]).run c.P w = .ok r w ∧ Rd w h.F z r := by
  cases hv with
  | nomp =>
    simp only [mlenV, Option.some.injEq] at hz
    subst hz
    exact ⟨.int .i64 0, by simp [Builtin.len_, run_underlying hT, goInt], .int _ _⟩
  | mp id ks xs b clk es h0 h1 h2 h3 h4 h5 h6 =>
    simp only [mlenV, Option.some.injEq] at hz
    subst hz
    exact ⟨.int .i64 es.size, by simp [Builtin.len_, run_underlying hT, MapKept.run_getObj_map h2, goInt, Result.andThen], by rw [h3]; exact .int _ _⟩
  | _ => simp [mlenV] at hz

theorem pk_run (hr : RelG c B G s a w h g) (hC : holds s (ixC c C)) {o : Oper} {k : TK} {es : List E} (hp : pk c g C o = some (k, es)) (hes : ∀ e ∈ es, ∃ z, eval s e = some z) (d : Nat) (hd : o.dst = some d) : PRun c B G s a w h o d k := by
  have hok := hr.ok
  obtain ⟨dst, op, type, pos, after, guard⟩ := o
  simp only at hd
  unfold pk at hp
  simp only at hp
  split at hp
  · exact ⟨_, w, rfl, PRes.here hok (pkMove_rel hr hC hp d)⟩
  · rename_i x
    obtain ⟨v, h1, h2⟩ := pkNilCheck_run hr hC hp { dst, op := .nilCheck x, type, pos, after, guard } rfl d
    exact ⟨v, w, h1, PRes.here hok h2⟩
  · exact ⟨_, w, rfl, PRes.here hok (pkAssign_rel hr hC hp hes d)⟩
  · exact PRun.of rfl (pkAlloc_run hok hp _ d)
  · exact PRun.of rfl (pkBox_run hr hC hp hes _ d)
  · exact Has.pr hok rfl (pkBin_run hr hC hp hes d)
  · simp only [pkUn, Option.map_eq_some_iff, Prod.mk.injEq] at hp
    obtain ⟨ea, ha, rfl, rfl⟩ := hp
    obtain ⟨u, hu, hur⟩ := opE_V hr hC ha
    obtain ⟨z, hz⟩ := hes _ (List.Mem.head _)
    have hz0 := hz
    simp only [eval, hu, Option.bind_some] at hz
    exact Has.pr hok rfl (pkOne (x := u) hz0 (rdF_ext (run_unV hz hur) []) _)
  · rename_i src dst' x
    unfold pkConv at hp
    split at hp
    · simp at hp
    · rename_i hsrc
      split at hp
      · rename_i kk hdst
        simp only [Option.map_eq_some_iff, Prod.mk.injEq] at hp
        obtain ⟨ea, ha, rfl, rfl⟩ := hp
        obtain ⟨u, hu, hur⟩ := opE_V hr hC ha
        obtain ⟨z, hz⟩ := hes _ (List.Mem.head _)
        have hz0 := hz
        simp only [eval, hu, Option.bind_some] at hz
        exact Has.pr hok rfl (pkOne (x := u) hz0 (rdF_ext (run_convV hz hur (by cases hh : c.P.underlying src <;> simp_all) hdst) []) _)
      · simp at hp
  · rename_i x i
    simp only [pkExt, Option.map_eq_some_iff, Prod.mk.injEq] at hp
    obtain ⟨ea, ha, rfl, rfl⟩ := hp
    obtain ⟨u, hu, hur⟩ := opE_V hr hC ha
    obtain ⟨z, hz⟩ := hes _ (List.Mem.head _)
    have he : ∃ q, eval s (.ext ea.1 i) = some q := by
      unfold flE at hz
      split at hz
      · exact ⟨z, hz⟩
      · split at hz
        · simp only [eval, hu, Option.bind_some] at hz ⊢
          cases hq : extV u i with
          | none => rw [hq] at hz; simp at hz
          | some q => exact ⟨q, rfl⟩
        · exact ⟨z, hz⟩
    obtain ⟨q, hq⟩ := he
    have hq0 := hq
    simp only [eval, hu, Option.bind_some] at hq
    obtain ⟨r, hr1, hr2⟩ := run_extV (c := c) (w := w) hq hur
    obtain ⟨z', hz', hrz⟩ := flE_rd (h := h) (fl := flatT c.P type) (b := (.ext ea.1 i, ea.2)) hq0 hr2 ⟨z, hz⟩
    exact Has.pr hok rfl ⟨r, hr1, z', hz', hrz⟩
  · exact Has.pr hok rfl (pkLoad_run hr hC hp hes d)
  · exact Has.pr hok rfl (pkField_run hr hC hp hes d)
  · exact Has.pr hok rfl (pkIndexAddr_run hr hC hp hes d)
  · exact Has.pr hok rfl (pkFld_run hr hC hp hes d)
  · exact Has.pr hok rfl (pkIndex_run hr hC hp hes d)
  · exact Has.pr hok rfl (pkSlice_run hr hC hp hes d)
  · -- a struct
    rename_i T parts
    unfold pkBuild at hp
    split at hp
    · rename_i fs hT
      simp only [Option.bind_eq_some_iff] at hp
      obtain ⟨zs, hz, b, hb, hp⟩ := hp
      split at hp
      · rename_i hempty
        have hts : b.2.2 = [] := by simpa using hempty
        have hev : ∃ z, eval s (.ag (b.1.map (·.2))) = some z := by
          split at hp <;> (simp only [Option.some.injEq, Prod.mk.injEq] at hp; obtain ⟨_, rfl⟩ := hp; exact hes _ (List.Mem.head _))
        obtain ⟨z, hz1⟩ := hev
        have hz1' := hz1
        simp only [eval, Option.map_eq_some_iff] at hz1'
        obtain ⟨xs, hxs, hxz⟩ := hz1'
        obtain ⟨hl, hx⟩ := evals_map hxs
        have hl' : xs.length = b.1.length := by simpa using hl
        obtain ⟨vs, hrun, hsz, howns, hcell⟩ := run_buildS hr hC hT hz hb (fun ck hck => by
          obtain ⟨i, hi⟩ := List.getElem?_of_mem hck
          obtain ⟨x, _, he⟩ := hx i ck.2 (by rw [List.getElem?_map, hi]; rfl)
          exact ⟨x, he⟩)
        rw [hts] at howns hcell
        refine Has.pr hok rfl ⟨.agg vs, hrun, ?_⟩
        have hx2 : ∀ (i : Nat) (x : V), xs[i]? = some x → x.one = true ∧ Rd w (h.ext b.2.1) x (vs.getD i undef) := by
          intro i x hi
          have hlt : i < b.1.length := by have := (List.getElem?_eq_some_iff.1 hi).1; omega
          obtain ⟨y, hy, hye⟩ := hx i (b.1[i]).2 (by rw [List.getElem?_map, List.getElem?_eq_getElem hlt]; rfl)
          rw [hi] at hy; cases hy
          have hc := hcell i b.1[i] (List.getElem?_eq_getElem hlt)
          unfold BRel at hc
          split at hc
          · obtain ⟨t, _, ht, _⟩ := hc; simp at ht
          · obtain ⟨e1, e2⟩ := hc
            rw [hye] at e2; cases e2
            rw [e1]
            exact ⟨rfl, .nil _ _ (Nat.zero_le _)⟩
          · obtain ⟨x', e1, e2, e3⟩ := hc
            rw [hye] at e1; cases e1
            exact ⟨e2, e3⟩
          · exact hc.elim
        have hone : ∀ x ∈ xs, x.one = true := fun x hxm => by
          obtain ⟨i, hi⟩ := List.getElem?_of_mem hxm
          exact (hx2 i x hi).1
        have hzx : z = .agg xs := by rw [← hxz]; simp only [agV, flat_one hone]
        split at hp
        · rename_i hfz
          simp only [Bool.and_eq_true, List.isEmpty_iff] at hfz
          simp only [Option.some.injEq, Prod.mk.injEq] at hp
          obtain ⟨rfl, rfl⟩ := hp
          refine ⟨vs, rfl, hsz, fun i ck hi => ?_⟩
          have hc := hcell i ck hi
          unfold BRel at hc
          obtain ⟨kk, e⟩ := ck
          cases kk with
          | own ty => obtain ⟨t, _, ht, _⟩ := hc; simp at ht
          | nil => exact hc
          | fz =>
            obtain ⟨x, e1, e2, e3⟩ := hc
            rw [hfz.1] at e3
            exact ⟨x, e1, e2, e3.F⟩
          | dead => exact hc.elim
        · simp only [Option.some.injEq, Prod.mk.injEq] at hp
          obtain ⟨rfl, rfl⟩ := hp
          refine ⟨z, hz1, ?_⟩
          rw [hzx]
          exact .agg xs vs (by rw [hsz, hl']) hone fun i x hi => (hx2 i x hi).2
      · simp at hp
    · simp at hp
  · exact PRun.of rfl (pkBuildSlice_run hr hC hp hes _ d hd)
  · exact PRun.of rfl (pkMake_run hr hC hp hes _ d hd)
  · exact Has.pr hok rfl (pkMakeFunc_run hr hC hp d)
  · exact PRun.of rfl (pkMakeMap_run hok hp _ d)
  · exact Has.pr hok rfl (pkLookup_run hr hC hp hes d)
  · -- len
    rename_i args argTypes
    split at hp
    · rename_i x T hx hT
      have hargs : args = #[x] := Array.toList_inj.1 (by simpa using hx)
      have htys : argTypes = #[T] := Array.toList_inj.1 (by simpa using hT)
      subst hargs htys
      have hex : execOp a.eval { dst, op := .call { callee := .builtin .len, args := #[x], argTypes := #[T] }, type, pos, after, guard } = (do pure (.value (← Builtin.len_ #[T] type #[a.eval x]))) := by
        simp [execOp, resolve, invoke, builtin]
      unfold pkLen at hp
      split at hp
      · rename_i e hT'
        simp only [Option.map_eq_some_iff, Prod.mk.injEq] at hp
        obtain ⟨ea, ha, rfl, rfl⟩ := hp
        obtain ⟨u, hu, hur⟩ := opE_V hr hC ha
        obtain ⟨z, hz⟩ := hes _ (List.Mem.head _)
        have hz0 := hz
        simp only [eval, hu, Option.bind_some] at hz
        exact Has.pr hok hex (pkOne (x := u) hz0 (rdF_ext (run_lenV hz hur hT') []) _)
      · rename_i n e hT'
        simp only [Option.some.injEq, Prod.mk.injEq] at hp
        obtain ⟨rfl, rfl⟩ := hp
        refine Has.pr hok hex ⟨.int .i64 n, ?_, _, rfl, .int _ _⟩
        simp [Builtin.len_, run_underlying hT', goInt]
      · rename_i k e hT'
        simp only [Option.map_eq_some_iff, Prod.mk.injEq] at hp
        obtain ⟨ea, ha, rfl, rfl⟩ := hp
        obtain ⟨u, hu, hur⟩ := opE_V hr hC ha
        obtain ⟨z, hz⟩ := hes _ (List.Mem.head _)
        have hz0 := hz
        simp only [eval, hu, Option.bind_some] at hz
        exact Has.pr hok hex (pkOne (x := u) hz0 (rdF_ext (run_mlenV hz hur hT') []) _)
      · simp at hp
    · simp at hp
  · rename_i args _
    split at hp
    · rename_i x y hx
      have hargs : args = #[x, y] := Array.toList_inj.1 (by simpa using hx)
      subst hargs
      simp only [pkMM, Bool.false_eq_true, if_false, Option.bind_eq_some_iff, Option.map_eq_some_iff, Prod.mk.injEq] at hp
      obtain ⟨ea, ha, eb, hb, rfl, rfl⟩ := hp
      obtain ⟨u, hu, hur⟩ := opE_V hr hC ha
      obtain ⟨v, hv, hvr⟩ := opE_V hr hC hb
      obtain ⟨z, hz⟩ := hes _ (List.Mem.head _)
      have hz0 := hz
      simp only [eval, hu, hv, Option.bind_some] at hz
      exact Has.pr hok (by simp [execOp, resolve, invoke, builtin]; rfl) (pkOne (x := u) hz0 (rdF_ext (run_minV hz hur hvr _ type) []) _)
    · simp at hp
  · rename_i args _
    split at hp
    · rename_i x y hx
      have hargs : args = #[x, y] := Array.toList_inj.1 (by simpa using hx)
      subst hargs
      simp only [pkMM, if_true, Option.bind_eq_some_iff, Option.map_eq_some_iff, Prod.mk.injEq] at hp
      obtain ⟨ea, ha, eb, hb, rfl, rfl⟩ := hp
      obtain ⟨u, hu, hur⟩ := opE_V hr hC ha
      obtain ⟨v, hv, hvr⟩ := opE_V hr hC hb
      obtain ⟨z, hz⟩ := hes _ (List.Mem.head _)
      have hz0 := hz
      simp only [eval, hu, hv, Option.bind_some] at hz
      exact Has.pr hok (by simp [execOp, resolve, invoke, builtin]; rfl) (pkOne (x := u) hz0 (rdF_ext (run_maxV hz hur hvr _ type) []) _)
    · simp at hp
  · rename_i args argTypes
    split at hp
    · rename_i x y T U hx hT
      have hargs : args = #[x, y] := Array.toList_inj.1 (by simpa using hx)
      have htys : argTypes = #[T, U] := Array.toList_inj.1 (by simpa using hT)
      subst hargs htys
      exact PRun.of (by simp [execOp, resolve, invoke, builtin]) (pkAppend_run (ty := type) hr hC hp hes _ d hd)
    · simp at hp
  · simp at hp
end
end Vm
