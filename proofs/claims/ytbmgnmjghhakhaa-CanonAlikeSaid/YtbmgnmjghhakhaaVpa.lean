/-
  Operations on maps of the call's own; a box that takes up a list or a map.
-/
import Derived.Test.YtbmgnmjghhakhaaVo
namespace Vm
open Go
open Go.RowKit (Below)
open Go.MapKept (IsKey bytes_beq sameNow_of_keys run_checkKey run_findKey run_keyThatStays)
set_option linter.unusedSimpArgs false
set_option linter.unusedVariables false

/-- a world in which a block is another one -/
def setB (w : World) (b : Nat) (o : Obj) : World := { w with heap := w.heap.setIfInBounds b o }
theorem setB_size (w : World) (b : Nat) (o : Obj) : (setB w b o).heap.size = w.heap.size := by simp [setB]
theorem setB_other (w : World) (b x : Nat) (o : Obj) (h : x ≠ b) : (setB w b o).heap[x]? = w.heap[x]? := by
  simp [setB, Array.getElem?_setIfInBounds_ne (Ne.symm h)]
theorem setB_at {w : World} {b : Nat} (o : Obj) (h : b < w.heap.size) : (setB w b o).heap[b]? = some o := by
  simp [setB, h]
theorem below_setB {B : Nat} (w : World) {b : Nat} (o : Obj) (h : B ≤ b) : Below B w (setB w b o) :=
  ⟨rfl, rfl, rfl, by simp [setB], fun x hx => setB_other w b x o (by omega)⟩

section
variable {c : Ctx} {B : Nat} {G : Nat → Prop} {s : St} {a a' : Act} {w w' : World} {h h' : GH} {g : Gam} {C : Conds} {fz ps rb : List Nat}

theorem mkBox_run (hr : RelG c B G s a w h g) {d : Nat} {T : TypeId} {x : Operand} {m : MS} (hd : d < a.tmps.size) (hm : mkBox c g d T x = some m) :
    ∃ v w' h', (Instr.box T (a.eval x)).run c.P w = .ok v w' ∧ MPost c B G s (a.put (some d) v) w w' h h' m := by
  unfold mkBox at hm
  split at hm
  · rename_i t ty e hk
    split at hm
    · rename_i hcond
      obtain ⟨htd, _⟩ := hcond
      simp only [Option.some.injEq] at hm
      subst hm
      obtain ⟨v, hv, ⟨y, hy, hown⟩, _⟩ := hr.look (holds_ix0 s c) (show look g [] t = _ from hk) rfl
      rw [Act.eval_tmp a t v hv]
      have hvc : v.cells = #[v] := by
        rcases hown with ⟨l, xs, _, _, _, ⟨_, hc⟩, _⟩ | ⟨_, _, _, _, _, _, _, rfl, _⟩
        · rcases hc with ⟨rfl, _⟩ | ⟨_, _, _, rfl, _⟩ <;> rfl
        · rfl
      have hg := World.grownBy_alloc w (.cells v.cells T) none
      have hsz : (w.alloc (.cells v.cells T)).heap.size = w.heap.size + 1 := by simp
      have hF : Same h.F w (w.alloc (.cells v.cells T)) := fun b hb => hg.block b (hr.ok.f_lt b hb) (by simp)
      refine ⟨.pointer (some ⟨w.heap.size, 0, none⟩), _, h.put d (fun i => if i = 0 then some w.heap.size else if i = 1 then h.bl t 1 else none) (lost h [t]), by simp [Instr.box, run_newVar], 
        step_put (below_grown hr.ok hg) (fun b hb _ => hg.block b hb (by simp)) (by simp) (fun u hu => by simp at hu; subst hu; simp) (fun hn => by simp at hn),
        hr.ok.put (by omega) (fun u i b _ hb => (lost_some hb).1) (fun i b hb => ?_) (fun i j b hi hj => ?_) (fun i b u j hu hi hj => ?_), ent_one (ts := [t]) ⟨_, put_at hd _, w.heap.size, v.cells, T, by simp [GH.put], rfl, heap_alloc_new w _, by rw [hvc]; rfl, fun i ck hi => ?_⟩⟩
      · split at hb
        · simp only [Option.some.injEq] at hb; subst hb; exact .inl ⟨Nat.le_refl _, by omega⟩
        · split at hb
          · exact .inr ⟨t, 1, hb⟩
          · cases hb
      · have old : ∀ {b}, h.bl t 1 = some b → b < w.heap.size := fun hb => (hr.ok.b_lt t 1 _ hb).2.1
        split at hi <;> split at hj <;> (try split at hi) <;> (try split at hj) <;> first | (cases hi; done) | (cases hj; done) | omega | skip
        · simp only [Option.some.injEq] at hi; subst hi; have := old hj; omega
        · simp only [Option.some.injEq] at hj; subst hj; have := old hi; omega
      · obtain ⟨h1, h2⟩ := lost_some hj
        split at hi
        · simp only [Option.some.injEq] at hi; subst hi
          have := (hr.ok.b_lt u j _ h1).2.1; omega
        · split at hi
          · exact h2 (by simp [(hr.ok.inj t 1 u j b hi h1).1])
          · cases hi
      · cases i with
        | zero =>
          simp at hi; subst hi
          refine ⟨y, hy, ?_⟩
          have hget : v.cells.getD 0 undef = v := by rw [hvc]; rfl
          rw [hget]
          have hk := hown.keep (h' := h.put d (fun i => if i = 0 then some w.heap.size else if i = 1 then h.bl t 1 else none) (lost h [t])) hF (fun _ hb => hb) fun b hb => hg.block b (hr.ok.b_lt t 1 b hb).2.1 (by simp)
          simpa [GH.put] using hk
        | succ i => simp at hi
    · cases hm
  · cases hm

def placeOk (c : Ctx) (B : Nat) (s : St) (a : Act) (w : World) (h : GH) (g : Gam) (p : Nat) (ty : TypeId) (e : E) (v : Value) : Option Nat → Prop
  | none => a.tmps[p]? = some v
  | some j => ∃ cs, memOf g p = some cs ∧ cs[j]? = some (.own ty, e) ∧ ∃ b vs T, h.bl p 0 = some b ∧ a.tmps[p]? = some (.pointer (some ⟨b, 0, none⟩)) ∧ w.heap[b]? = some (.cells vs T (0, 0)) ∧ RelCs c.P B s w h p cs vs ∧ vs.getD j undef = v
/-- where a map of the call's own stands, its value is one -/
theorem mapAt_rel (hr : RelG c B G s a w h g) {x : Operand} {p : Nat} {i : Option Nat} {ty : TypeId} {e : E} (hm : mapAt g x = some (p, i, ty, e)) :
    ∃ X, eval s e = some X ∧ OwnV c.P B w h (h.bl p (plI i)) ty X (a.eval x) ∧ placeOk c B s a w h g p ty e (a.eval x) i := by
  unfold mapAt at hm
  split at hm
  · rename_i t ty' e' hk
    split at hm
    · simp only [Option.some.injEq, Prod.mk.injEq] at hm
      obtain ⟨rfl, rfl, rfl, rfl⟩ := hm
      obtain ⟨v, hv, ⟨X, hX, hown⟩, _⟩ := hr.look (holds_ix0 s c) (show look g [] t = _ from hk) rfl
      rw [Act.eval_tmp a t v hv]
      exact ⟨X, hX, hown, hv⟩
    · cases hm
  · rename_i x _ _ q hk
    simp only [Option.map_eq_some_iff] at hm
    obtain ⟨⟨ty', e'⟩, ho, hm⟩ := hm
    simp only [Prod.mk.injEq] at hm
    obtain ⟨rfl, rfl, rfl, rfl⟩ := hm
    obtain ⟨v, hv, X, hX, hown⟩ := hr.ownOf ho
    have hrel : a.tmps[q]? = some (a.eval x) := opK_rel hr (holds_ix0 s c) hk rfl 0
    rw [hv] at hrel
    simp only [Option.some.injEq] at hrel
    rw [← hrel]
    exact ⟨X, hX, hown, hv⟩
  · rename_i x _ _ q j hk
    simp only [Option.bind_eq_some_iff] at hm
    obtain ⟨cs, hmem, hm⟩ := hm
    split at hm
    · rename_i ty' e' hc
      simp only [Option.some.injEq, Prod.mk.injEq] at hm
      obtain ⟨rfl, rfl, rfl, rfl⟩ := hm
      obtain ⟨b, vs, T, h1, h2, h3, h4⟩ := hr.memOf hmem
      obtain ⟨X, hX, hown⟩ := h4.2 j _ hc
      obtain ⟨b', h1', hcell⟩ : ∃ b, h.bl q 0 = some b ∧ w.cell? ⟨b, j, none⟩ = some (a.eval x) := opK_rel hr (holds_ix0 s c) hk rfl 0
      rw [h1] at h1'; cases h1'
      rw [cell_of_row w b j vs T (0, 0) h3] at hcell
      have hget : vs.getD j undef = a.eval x := by simp [Array.getD_eq_getD_getElem?, hcell]
      rw [hget] at hown
      exact ⟨X, hX, hown, cs, hmem, hc, b, vs, T, h1, h2, h3, h4, hget⟩
    · cases hm
  · cases hm

/-- a map of the call's own is another one -/
theorem mkMap_run (hr : RelG c B G s a w h g) (ha : a'.tmps = a.tmps) {T : TypeId} {x : Operand} {f : E → E} {m : MS} (hm : mkMap g T x f = some m) (hes : ∀ e ∈ m.es, ∃ z, eval s e = some z)
    (hform : ∀ e z, eval s (f e) = some z → ∃ X, eval s e = some X ∧ ∃ id ks xs, X = .mp id ks xs) :
    ∃ e id ks xs b es clk, eval s e = some (.mp id ks xs) ∧ (∃ z, eval s (f e) = some z) ∧ a.eval x = .map (some b) ∧ w.heap[b]? = some (.map es clk) ∧ ks.length = es.size ∧ xs.length = es.size ∧
      (∀ (i : Nat) (c : V), ks[i]? = some c → Rd w h.F c (es.getD i default).key) ∧ (∀ (i : Nat) (c : V), xs[i]? = some c → Rd w h.F c (es.getD i default).val) ∧
      ∀ ks' xs' es' clk', eval s (f e) = some (.mp id ks' xs') → ks'.length = es'.size → xs'.length = es'.size → (∀ (i : Nat) (c : V), ks'[i]? = some c → Rd w h.F c (es'.getD i default).key) → (∀ (i : Nat) (c : V), xs'[i]? = some c → Rd w h.F c (es'.getD i default).val) →
        MPost c B G s a' w (setB w b (.map es' clk')) h h m := by
  unfold mkMap at hm
  simp only [Option.bind_eq_some_iff] at hm
  obtain ⟨⟨p, i, ty, e⟩, hat, hm⟩ := hm
  split at hm
  · rename_i hty
    simp only at hty
    subst hty
    simp only [Option.map_eq_some_iff] at hm
    obtain ⟨k, hput, rfl⟩ := hm
    obtain ⟨X, hX, hown, hplace⟩ := mapAt_rel hr hat
    obtain ⟨z, hz⟩ := hes _ (List.Mem.head _)
    obtain ⟨X', hX', id, ks, xs, rfl⟩ := hform e z hz
    rw [hX] at hX'; cases hX'
    rcases hown with ⟨l, _, hl, _⟩ | ⟨id', ks', xs', b, es, clk, hX2, hv, hbl, hB, hid, hh, h1, h2, h3, h4⟩
    · cases hl
    cases hX2
    refine ⟨e, id, ks, xs, b, es, clk, hX, ⟨z, hz⟩, hv, hh, h1, h2, h3, h4, fun ks' xs' es' clk' he h1' h2' h3' h4' => ?_⟩
    obtain ⟨hBb, hlt, hnF⟩ := hr.ok.b_lt p (plI i) b hbl
    have hF : Same h.F w (setB w b (.map es' clk')) := fun y hy => setB_other w b y _ fun e => hnF (e ▸ hy)
    have hown' : OwnV c.P B (setB w b (.map es' clk')) h (h.bl p (plI i)) ty (.mp id ks' xs') (a.eval x) :=
      .inr ⟨id, ks', xs', b, es', clk', rfl, hv, hbl, hB, hid, setB_at _ hlt, h1', h2', fun i c hi => (h3' i c hi).keep hF fun _ hb => hb, fun i c hi => (h4' i c hi).keep hF fun _ hb => hb⟩
    refine ⟨⟨below_setB w _ hB, fun y hy hn => setB_other w b y _ fun e => hn p (by simp) (plI i) (e ▸ hbl), fun _ hb => hb, fun _ _ _ => rfl, fun _ _ => rfl, fun _ _ _ _ hm => (by simp at hm), rfl⟩,
      ⟨by rw [setB_size]; exact hr.ok.base, fun y hy => by rw [setB_size]; exact hr.ok.f_lt y hy, hr.ok.f_or, hr.ok.g_F, fun t j y hy => by rw [setB_size]; exact hr.ok.b_lt t j y hy, hr.ok.inj, fun y hy => by rw [setB_size]; exact hr.ok.k_lt y hy, hr.ok.k_bl, hr.ok.k_F⟩, ?_⟩
    cases i with
    | none =>
      simp only [putMap, Option.some.injEq] at hput
      subst hput
      exact ent_one (ts := []) ⟨_, by rw [ha]; exact hplace, _, he, hown'⟩
    | some j =>
      obtain ⟨cs, hmem, hc, b0, vs, T', e1, e2, e3, e4, e5⟩ := hplace
      obtain ⟨cs', hmem', hle, rfl⟩ := putM_some hput
      rw [hmem] at hmem'; cases hmem'
      have hbn : b0 ≠ b := fun e => by
        subst e
        have := (hr.ok.inj p 0 p (j + 1) b0 e1 hbl).2; omega
      obtain ⟨hsl, hget⟩ := setRange_get hle
      refine ent_one (ts := []) ⟨_, by rw [ha]; exact e2, b0, vs, T', e1, rfl, by rw [setB_other w b b0 _ hbn]; exact e3, by rw [e4.1, hsl], fun q ck hi => ?_⟩
      rcases hget q ck hi with ⟨q1, q2, q3⟩ | ⟨q1, q3⟩
      · have hiq : q = j := by simp only [List.length_singleton] at q2; omega
        subst hiq
        simp at q3
        subst q3
        exact ⟨_, he, by rw [e5]; exact hown'⟩
      · refine (e4.2 q ck q3).keep hF (fun _ hb => hb) fun y hy => setB_other w b y _ fun e => ?_
        subst e
        have := (hr.ok.inj p (q + 1) p (j + 1) y hy hbl).2
        simp only [List.length_singleton] at q1
        omega
  · cases hm

theorem mkClear_run (hr : RelG c B G s a w h g) (ha : a'.tmps = a.tmps) {T ty : TypeId} {x : Operand} {m : MS} (hm : mkClear c g T x = some m) (hes : ∀ e ∈ m.es, ∃ z, eval s e = some z) :
    ∃ v w' h', (Builtin.clear_ #[T] ty #[a.eval x]).run c.P w = .ok v w' ∧ MPost c B G s a' w w' h h' m := by
  unfold mkClear at hm
  split at hm
  · rename_i hT
    unfold isMapT at hT
    split at hT
    · rename_i kt el hT'
      obtain ⟨e, id, ks, xs, b, es, clk, h1, _, h3, h4, h5, h6, h7, h8, h9⟩ := mkMap_run hr ha hm hes fun e z hz => by
        simp only [eval, Option.bind_eq_some_iff] at hz
        obtain ⟨X, hX, hz⟩ := hz
        refine ⟨X, hX, ?_⟩
        cases X <;> simp [mclrV] at hz
        exact ⟨_, _, _, rfl⟩
      refine ⟨.tuple #[], setB w b (.map #[] clk), h, ?_, h9 [] [] #[] clk (by simp [eval, h1, mclrV]) rfl rfl (fun i c hi => by simp at hi) (fun i c hi => by simp at hi)⟩
      rw [h3]
      simp [Builtin.clear_, run_underlying hT', MapKept.run_getObj_map h4, MapKept.run_setObj_map _ h4, Result.andThen, setB]
    · cases hT
  · cases hm

theorem mkMapUpdate_run (hr : RelG c B G s a w h g) (ha : a'.tmps = a.tmps) {T : TypeId} {x k v : Operand} {m : MS} (hm : mkMapUpdate c g T x k v = some m) (hes : ∀ e ∈ m.es, ∃ z, eval s e = some z) :
    ∃ w' h', (Instr.mapUpdate T (a.eval x) (a.eval k) (a.eval v)).run c.P w = .ok () w' ∧ MPost c B G s a' w w' h h' m := by
  unfold mkMapUpdate at hm
  split at hm
  · rename_i kt el hT
    simp only [Option.bind_eq_some_iff] at hm
    obtain ⟨kc, hkc, ek, hk, ev, hv, hm⟩ := hm
    split at hm
    · cases hm
    · rename_i hemp
      have hsh : ev.2 = [] := by simpa using hemp
      obtain ⟨kv, hkv, hkr⟩ := opE_rd hr (holds_ix0 s c) hk
      obtain ⟨vv, hvv, hvr⟩ := opE_rd hr (holds_ix0 s c) hv
      rw [hsh] at hvr
      have hvr := hvr.F
      obtain ⟨e, id, ks, xs, b, es, clk, h1, ⟨z, hz⟩, h3, h4, h5, h6, h7, h8, h9⟩ := mkMap_run hr ha hm hes fun e z hz => by
        simp only [eval, hkv, hvv, Option.bind_some, Option.bind_eq_some_iff] at hz
        obtain ⟨X, hX, hz⟩ := hz
        obtain ⟨_, _, _, _, _, rfl, _⟩ := mputV_form hz
        exact ⟨_, hX, _, _, _, rfl⟩
      have hz0 := hz
      simp only [eval, h1, hkv, hvv, Option.bind_some] at hz
      unfold mputV at hz
      split at hz
      · cases hz
      rename_i hik
      have hik : isK kc kv = true := by simpa using hik
      have hkd := kcOf_some hkc
      have hkey := isK_key hik hkr
      have hkF : Rd w h.F kv (a.eval k) := hkr.flat (by cases kc <;> cases kv <;> simp [isK, V.flatc] at hik ⊢)
      have hck := run_checkKey (w := w) hkd hkey
      have hks := run_keyThatStays (P := c.P) (w := w) hkey
      simp only at hz
      rw [h3]
      split at hz
      · rename_i j hf
        obtain ⟨en, e1, e2, e3⟩ := findV_spec (w2 := w) (G'' := h.F) hik hkr hf (l := es.toList) (by simpa using h5) (fun i c hi => by simpa [Array.getD_eq_getD_getElem?] using h7 i c hi) 0
        simp only [Option.some.injEq] at hz
        subst hz
        have hj : es[j]? = some en := by simpa using e1
        have hjl : j < es.size := (Array.getElem?_eq_some_iff.1 hj).1
        have hfk := run_findKey (w := w) hkd e3
        refine ⟨setB w b (.map (es.modify j fun e => { e with key := a.eval k, val := a.eval v }) clk), h, ?_, h9 _ _ _ _ hz0 (by simpa using h5) (by simpa using h6) (fun i c hi => ?_) (fun i c hi => ?_)⟩
        · have : es[j] = en := by rw [Array.getElem?_eq_getElem hjl] at hj; simpa using hj
          simp [Instr.mapUpdate, run_underlying hT, MapKept.run_getObj_map h4, hck, hfk, hj, this, e2, hks, MapKept.run_setObj_map _ h4, Result.andThen, setB]
        · have := h7 i c hi
          rw [Array.getD_eq_getD_getElem?, Array.getElem?_modify]
          rw [Array.getD_eq_getD_getElem?] at this
          by_cases hij : j = i
          · subst hij
            rw [hj] at this
            simp only [if_true, hj, Option.map_some, Option.getD_some]
            simp only [Option.getD_some, e2] at this
            exact this
          · rw [if_neg hij]; exact this
        · rw [Array.getD_eq_getD_getElem?, Array.getElem?_modify]
          by_cases hij : j = i
          · subst hij
            simp only [if_true, hj, Option.map_some, Option.getD_some]
            rw [List.getElem?_set_self (by omega)] at hi
            cases hi
            exact hvr
          · rw [if_neg hij]
            rw [List.getElem?_set_ne hij] at hi
            have := h8 i c hi
            rw [Array.getD_eq_getD_getElem?] at this
            exact this
      · rename_i hf
        have e3 := findV_spec (w2 := w) (G'' := h.F) hik hkr hf (l := es.toList) (by simpa using h5) (fun i c hi => by simpa [Array.getD_eq_getD_getElem?] using h7 i c hi) 0
        simp only [Option.some.injEq] at hz
        subst hz
        have hfk := run_findKey (w := w) hkd e3
        refine ⟨setB w b (.map (es.push { key := a.eval k, val := a.eval v, born := clk }) (clk + 1)), h, ?_, h9 _ _ _ _ hz0 (by simp [h5]) (by simp [h6]) (fun i c hi => ?_) (fun i c hi => ?_)⟩
        · simp [Instr.mapUpdate, run_underlying hT, MapKept.run_getObj_map h4, hck, hfk, MapKept.run_setObj_map _ h4, Result.andThen, setB]
        · rw [Array.getD_eq_getD_getElem?, Array.getElem?_push]
          by_cases hlt : i < ks.length
          · rw [List.getElem?_append_left hlt] at hi
            rw [if_neg (by omega)]
            have := h7 i c hi
            rw [Array.getD_eq_getD_getElem?] at this
            exact this
          · rw [List.getElem?_append_right (by omega)] at hi
            have hi0 : i = ks.length := by
              have := (List.getElem?_eq_some_iff.1 hi).1
              simp at this; omega
            subst hi0
            simp at hi
            subst hi
            rw [if_pos h5]
            exact hkF
        · rw [Array.getD_eq_getD_getElem?, Array.getElem?_push]
          by_cases hlt : i < xs.length
          · rw [List.getElem?_append_left hlt] at hi
            rw [if_neg (by omega)]
            have := h8 i c hi
            rw [Array.getD_eq_getD_getElem?] at this
            exact this
          · rw [List.getElem?_append_right (by omega)] at hi
            have hi0 : i = xs.length := by
              have := (List.getElem?_eq_some_iff.1 hi).1
              simp at this; omega
            subst hi0
            simp at hi
            subst hi
            rw [if_pos h6]
            exact hvr
      · cases hz
  · cases hm
end
end Vm
