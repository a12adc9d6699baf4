/-
  Operations that turn more than their own temporary (1): assignments, stores.
-/
import Derived.Test.YtbmgnmjghhakhaaVm
namespace Vm
open Go
open Go.RowKit (Below)
set_option linter.unusedSimpArgs false
set_option linter.unusedVariables false

/-- the slot d has other blocks, and other slots may have lost some -/
def GH.put (h : GH) (d : Nat) (f : Nat → Option Nat) (r : Nat → Nat → Option Nat) : GH := { F := h.F, bl := fun u => if u = d then f else r u, K := h.K }
/-- slots that have lost theirs -/
def lost (h : GH) (ts : List Nat) (u : Nat) (i : Nat) : Option Nat := if u ∈ ts then none else h.bl u i

section
variable {c : Ctx} {B : Nat} {G : Nat → Prop} {s : St} {a a' : Act} {w w' : World} {h h' : GH} {g : Gam} {C : Conds} {fz ps rb : List Nat}

theorem Ok.put (hok : Ok B G w h) (hsz : w.heap.size ≤ w'.heap.size) {d : Nat} {f : Nat → Option Nat} {r : Nat → Nat → Option Nat}
    (hr : ∀ u i b, u ≠ d → r u i = some b → h.bl u i = some b) (hf : ∀ i b, f i = some b → (w.heap.size ≤ b ∧ b < w'.heap.size) ∨ ∃ t j, h.bl t j = some b)
    (hinj : ∀ i j b, f i = some b → f j = some b → i = j) (hdis : ∀ i b u j, u ≠ d → f i = some b → r u j = some b → False) : Ok B G w' (h.put d f r) := by
  refine ⟨Nat.le_trans hok.base hsz, fun b hb => Nat.lt_of_lt_of_le (hok.f_lt b hb) hsz, hok.f_or, hok.g_F, fun t i b hb => ?_, fun t i u j b hb hb' => ?_, fun b hb => Nat.lt_of_lt_of_le (hok.k_lt b hb) hsz, fun t i b hb hK => ?_, hok.k_F⟩
  · simp only [GH.put] at hb
    have old : ∀ t j, h.bl t j = some b → B ≤ b ∧ b < w'.heap.size ∧ ¬ h.F b := fun t j hj => by
      obtain ⟨h1, h2, h3⟩ := hok.b_lt t j b hj
      exact ⟨h1, Nat.lt_of_lt_of_le h2 hsz, h3⟩
    split at hb
    · rcases hf i b hb with ⟨h1, h2⟩ | ⟨t, j, hj⟩
      · exact ⟨Nat.le_trans hok.base h1, h2, fun hF => by have := hok.f_lt _ hF; omega⟩
      · exact old t j hj
    · rename_i hne
      exact old t i (hr t i b hne hb)
  · simp only [GH.put] at hb hb'
    split at hb <;> split at hb'
    · rename_i e1 e2; exact ⟨e1.trans e2.symm, hinj i j b hb hb'⟩
    · rename_i e1 e2; exact (hdis i b u j e2 hb hb').elim
    · rename_i e1 e2; exact (hdis j b t i e1 hb' hb).elim
    · rename_i e1 e2; exact hok.inj t i u j b (hr t i b e1 hb) (hr u j b e2 hb')
  · simp only [GH.put] at hb
    split at hb
    · rcases hf i b hb with ⟨h1, h2⟩ | ⟨t, j, hj⟩
      · have := hok.k_lt _ hK; omega
      · exact hok.k_bl t j b hj hK
    · rename_i hne
      exact hok.k_bl t i b (hr t i b hne hb) hK
theorem lost_some {ts : List Nat} {u i b : Nat} (hl : lost h ts u i = some b) : h.bl u i = some b ∧ u ∉ ts := by
  unfold lost at hl
  split at hl
  · cases hl
  · exact ⟨hl, by assumption⟩
theorem lost_not {ts : List Nat} {u : Nat} (hu : u ∉ ts) : lost h ts u = h.bl u := by
  funext i
  simp [lost, hu]
theorem step_put (hb : Below B w w') (hsame : ∀ b, b < w.heap.size → (∀ p ∈ ps, ∀ i, h.bl p i ≠ some b) → w'.heap[b]? = w.heap[b]?) {d : Nat} {f : Nat → Option Nat} {ts : List Nat}
    (hd : d ∈ ps) (hts : ∀ t ∈ ts, t ∈ ps ∧ t ∈ rb) (h0 : d ∉ rb → f 0 = h.bl d 0) : Step B ps rb [] w w' h (h.put d f (lost h ts)) := by
  refine ⟨hb, hsame, fun _ hb => hb, fun t ht _ => ?_, fun t ht => ?_, fun _ _ _ _ hm => (by simp at hm), rfl⟩
  · have h1 : t ≠ d := fun e => ht (e ▸ hd)
    simp only [GH.put, if_neg h1]
    exact lost_not fun e => ht (hts t e).1
  · simp only [GH.put]
    split
    · rename_i e; subst e; exact h0 ht
    · rw [lost_not fun e => ht (hts t e).2]
theorem Step.after (h2 : Step B ps rb [] w w' (h.thaw fz) h') : Step B ps rb fz w w' h h' := by
  have hbl : ∀ p i b, (h.thaw fz).bl p i = some b → h.bl p i = some b := by
    intro p i b hb
    simp only [GH.thaw] at hb
    split at hb
    · cases hb
    · exact hb
  refine ⟨h2.below, fun b hb hn => h2.same b hb fun p hp i hi => hn p hp i (hbl p i b hi), fun b hb => h2.F b (.inl hb), fun t ht htf => ?_, fun t ht => ?_, fun t i b _ htf hb => h2.F b (.inr ⟨t, htf, i, hb⟩), h2.K⟩
  · rw [h2.bl t ht (by simp)]
    funext i; simp [GH.thaw, htf]
  · rw [h2.fz0 t ht]; simp [GH.thaw]

/-- behind an operation that turns more than its own temporary -/
structure MPost (c : Ctx) (B : Nat) (G : Nat → Prop) (s : St) (a' : Act) (w w' : World) (h h' : GH) (m : MS) : Prop where
  step : Step B m.ps m.rb m.fz w w' h h'
  ok : Ok B G w' h'
  ent : ∀ t ∈ domOf m.d, (m.d.at t).1 = [] ∧ ((m.d.at t).2.isNo = false → ∃ u, a'.tmps[t]? = some u ∧ RelK c.P B s w' h' (fun p => a'.tmps[p]?) t u (m.d.at t).2)

theorem ent_one {d : Nat} {k : TK} {ts : List Nat} (hd : ∃ u, a'.tmps[d]? = some u ∧ RelK c.P B s w' h' (fun p => a'.tmps[p]?) d u k) :
    ∀ t ∈ domOf ((d, [], k) :: ts.map fun t => (t, ([] : Conds), TK.no)), (Gam.at ((d, [], k) :: ts.map fun t => (t, ([] : Conds), TK.no)) t).1 = [] ∧
      ((Gam.at ((d, [], k) :: ts.map fun t => (t, ([] : Conds), TK.no)) t).2.isNo = false → ∃ u, a'.tmps[t]? = some u ∧ RelK c.P B s w' h' (fun p => a'.tmps[p]?) t u (Gam.at ((d, [], k) :: ts.map fun t => (t, ([] : Conds), TK.no)) t).2) := by
  intro t ht
  simp only [Gam.at]
  by_cases hdt : d = t
  · subst hdt
    rw [if_pos rfl]
    exact ⟨rfl, fun _ => hd⟩
  · rw [if_neg hdt]
    have : ∀ (ts : List Nat), Gam.at (ts.map fun t => (t, ([] : Conds), TK.no)) t = ([], .no) := by
      intro ts
      induction ts with
      | nil => rfl
      | cons u ts ih => simp only [List.map_cons, Gam.at, ih, ite_self]
    rw [this]
    exact ⟨rfl, fun hn => by simp [TK.isNo] at hn⟩

theorem put_at {d : Nat} (hd : d < a.tmps.size) (v : Value) : (a.put (some d) v).tmps[d]? = some v := by
  simp [Act.put, hd]
theorem put_ne {d t : Nat} (hd : t ≠ d) (v : Value) : (a.put (some d) v).tmps[t]? = a.tmps[t]? := by
  simp [Act.put, Array.getElem?_setIfInBounds_ne (Ne.symm hd)]

theorem ixC_nil (c : Ctx) : ixC c [] = [] := rfl
theorem holds_ix0 (s : St) (c : Ctx) : holds s (ixC c []) := holds_nil s

/-- a value that is kept -/
theorem kept0 (hr : RelG c B G s a w h g) {fl : Bool} {x : Operand} {b : E × List Nat} (hk : keepE g fl x = some b) {z : V} (hz : eval s b.1 = some z) : Rd w (h.thaw b.2).F z (a.eval x) := by
  simp only [keepE, Option.map_eq_some_iff] at hk
  obtain ⟨a0, ha, rfl⟩ := hk
  obtain ⟨y, hy, hyr⟩ := opE_V hr (holds_ix0 s c) ha
  obtain ⟨z', hz', hzr⟩ := flE_rd (fl := fl) (b := a0) hy hyr ⟨z, hz⟩
  rw [hz] at hz'; cases hz'
  exact hzr.mono (thaw_ext fun p hp => hp)
theorem kept1 (hr : RelG c B G s a w h g) {fl ag : Bool} {n : Nat} {x : Operand} {b : E × List Nat} (hk : keepE g fl x = some b) {z : V} (hz : eval s (tyE ag n b.1) = some z) :
    (∀ l, z ≠ .tup l) ∧ (ag = true → z.cells.length = n) ∧ (ag = false → z.one = true) ∧ Rd w (h.thaw b.2).F z (a.eval x) := by
  obtain ⟨h1, h2, h3, h4⟩ := tyE_eval hz
  exact ⟨h2, h3, h4, kept0 hr hk h1⟩
theorem OwnV.mono {P : Program} {o o' : Option Nat} {ty : TypeId} {x : V} {v : Value} (hv : OwnV P B w h o ty x v) (hF : ∀ b, h.F b → h'.F b) (ho : o = o') : OwnV P B w h' o' ty x v := by
  subst ho
  exact hv.keep (.refl _ _) hF fun _ _ => rfl

theorem hand_run (hr : RelG c B G s a w h g) {ty : TypeId} {d t : Nat} {e : E} {v : Value} (hd : d < a.tmps.size) (htd : t ≠ d) {y : V} (hy : eval s e = some y) (hown : OwnV c.P B w h (h.bl t 1) ty y v) :
    ∃ h', MPost c B G s (a.put (some d) v) w w h h' { d := [(d, [], .own ty e), (t, [], .no)], ps := [d, t], rb := [d, t], fz := [], es := [] } := by
  refine ⟨h.put d (fun i => if i = 1 then h.bl t 1 else none) (lost h [t]), step_put (Below.refl _ _) (fun _ _ _ => rfl) (by simp) (fun u hu => by simp at hu; subst hu; simp) (fun hn => by simp at hn),
    hr.ok.put (Nat.le_refl _) (fun u i b _ hb => (lost_some hb).1) (fun i b hb => ?_) (fun i j b hi hj => ?_) (fun i b u j hu hi hj => ?_), ent_one (ts := [t]) ⟨v, put_at hd v, y, hy, ?_⟩⟩
  · split at hb
    · exact .inr ⟨t, 1, hb⟩
    · cases hb
  · split at hi <;> split at hj <;> first | (cases hi; done) | (cases hj; done) | omega
  · split at hi
    · obtain ⟨h1, h2⟩ := lost_some hj
      exact h2 (by simp [(hr.ok.inj t 1 u j b hi h1).1])
    · cases hi
  · exact hown.mono (fun _ hb => hb) (by simp [GH.put])
theorem mkAssign_run (hr : RelG c B G s a w h g) {ty : TypeId} {d : Nat} {x : Operand} {m : MS} (hd : d < a.tmps.size) (hm : mkAssign c g ty d x = some m) (hes : ∀ e ∈ m.es, ∃ z, eval s e = some z) :
    ∃ h', MPost c B G s (a.put (some d) (a.eval x)) w w h h' m := by
  unfold mkAssign at hm
  split at hm
  · rename_i t ty' e hk
    split at hm
    · cases hm
    · rename_i hne
      have htd : t ≠ d := fun e => hne (.inl e)
      simp only [Option.some.injEq] at hm
      subst hm
      obtain ⟨v, hv, ⟨y, hy, hown⟩, _⟩ := hr.look (holds_ix0 s c) (show look g [] t = _ from hk) rfl
      rw [Act.eval_tmp a t v hv]
      exact hand_run hr hd htd hy hown
  · rename_i hk
    simp only [Option.some.injEq] at hm
    subst hm
    rw [opK_nil hr (holds_ix0 s c) hk]
    exact ⟨h.put d (fun _ => none) (lost h []), step_put (Below.refl _ _) (fun _ _ _ => rfl) (by simp) (fun u hu => by simp at hu) (fun hn => by simp at hn),
      hr.ok.put (Nat.le_refl _) (fun u i b _ hb => (lost_some hb).1) (fun i b hb => by cases hb) (fun i j b hi hj => by cases hi) (fun i b u j hu hi hj => by cases hi), ent_one (ts := []) ⟨_, put_at hd _, rfl⟩⟩
  · split at hm
    · rename_i p ty' e hho
      simp only [Option.some.injEq] at hm
      subst hm
      unfold handOver at hho
      split at hho
      · rename_i p' hk
        split at hho
        · rename_i hcond
          simp only [Bool.and_eq_true, bne_iff_ne, ne_eq] at hcond
          simp only [Option.map_eq_some_iff, Prod.mk.injEq] at hho
          obtain ⟨⟨q1, q2⟩, hho, rfl, rfl, rfl⟩ := hho
          obtain ⟨v, hv, y, hy, hown⟩ := hr.ownOf hho
          have hrel : a.tmps[p']? = some (a.eval _) := opK_rel hr (holds_ix0 s c) hk rfl 0
          rw [hv] at hrel
          simp only [Option.some.injEq] at hrel
          rw [← hrel]
          exact hand_run hr hd hcond.2 hy hown
        · cases hho
      · cases hho
    · simp only [Option.map_eq_some_iff] at hm
      obtain ⟨b, hb, rfl⟩ := hm
      obtain ⟨z, hz⟩ := hes b.1 (by simp)
      have hrd := kept0 hr hb hz
      obtain ⟨hok1, _⟩ := thaw_step hr.ok b.2
      exact ⟨(h.thaw b.2).put d (fun _ => none) (lost (h.thaw b.2) []), Step.after (step_put (Below.refl _ _) (fun _ _ _ => rfl) (by simp) (fun u hu => by simp at hu) (fun hn => by simp at hn)),
        hok1.put (Nat.le_refl _) (fun u i b _ hb => (lost_some hb).1) (fun i b hb => by cases hb) (fun i j b hi hj => by cases hi) (fun i b u j hu hi hj => by cases hi), ent_one (ts := []) ⟨_, put_at hd _, z, hz, hrd.mono fun b hb => GH.ext_F hb⟩⟩

/-! ### Stores -/
/-- cells of a row from place o on are others -/
def rowSet (cur : Array Value) (o : Nat) (new : Array Value) : Array Value := (cur.toList.take o ++ new.toList ++ cur.toList.drop (o + new.size)).toArray
theorem rowSet_size {cur new : Array Value} {o : Nat} (hle : o + new.size ≤ cur.size) : (rowSet cur o new).size = cur.size := by
  simp [rowSet]; omega
theorem rowSet_in {cur new : Array Value} {o : Nat} (hle : o + new.size ≤ cur.size) {i : Nat} (hi : i < new.size) : (rowSet cur o new).getD (o + i) undef = new.getD i undef := by
  simp only [rowSet, Array.getD_eq_getD_getElem?, List.getElem?_toArray]
  rw [List.getElem?_append_left (by simp; omega), List.getElem?_append_right (by simp; omega)]
  congr 1
  simp
  congr 1
  omega
theorem rowSet_out {cur new : Array Value} {o : Nat} (hle : o + new.size ≤ cur.size) {i : Nat} (hi : i < o ∨ o + new.size ≤ i) : (rowSet cur o new).getD i undef = cur.getD i undef := by
  simp only [rowSet, Array.getD_eq_getD_getElem?, List.getElem?_toArray]
  rcases hi with hi | hi
  · rw [List.getElem?_append_left (by simp; omega), List.getElem?_append_left (by simp; omega), List.getElem?_take, if_pos hi]
    simp
  · rw [List.getElem?_append_right (by simp; omega), List.getElem?_drop]
    congr 1
    simp
    congr 1
    omega
theorem run_storeRow {P : Program} {T : TypeId} (hT : okT P T = true) {b o : Nat} {cur : Array Value} {ty : TypeId} (hh : w.heap[b]? = some (.cells cur ty (0, 0))) {v : Value} (hn : v.cells.size = P.cellsOf T) (hone : ∀ (i : Nat), i < v.cells.size → (v.cells.getD i undef).oneCell' = true) (hle : o + v.cells.size ≤ cur.size) :
    (Instr.storeAt T (.pointer (some ⟨b, o, none⟩)) v).run P w = .ok () (w.setRow b (rowSet cur o v.cells)) := by
  obtain ⟨d, i, hd, hi, hs, _⟩ := okT_of hT
  have hst := run_storeCells_at (P := P) b o ty v.cells.toList 0 cur w hh (by simpa using hle) (fun u hu => by
    obtain ⟨j, hj⟩ := List.getElem?_of_mem hu
    have hlt : j < v.cells.size := by simpa using (List.getElem?_eq_some_iff.1 hj).1
    have := hone j hlt
    have hget : v.cells.getD j undef = u := by
      simp only [Array.getD_eq_getD_getElem?]
      rw [Array.getElem?_toList] at hj
      rw [hj]; rfl
    rw [hget] at this; exact this)
  simp only [Nat.add_zero, Array.length_toList] at hst
  simp [Instr.storeAt, Instr.sureAddr, storeVar, run_szOf hi, hn, hs, hst, rowSet]
theorem below_setRow (w : World) {b : Nat} (hb : B ≤ b) (cs : Array Value) : Below B w (w.setRow b cs) :=
  ⟨rfl, rfl, rfl, by simp [World.setRow], fun k hk => setRow_other w b k cs (by omega)⟩
theorem setRow_same (hok : Ok B G w h) {b : Nat} (cs : Array Value) {G' : Nat → Prop} (hn : ∀ x, G' x → x ≠ b) : Same G' w (w.setRow b cs) := fun x hx => setRow_other w b x cs (hn x hx)

theorem setRange_get {cs new : List (CK × E)} {o : Nat} (hle : o + new.length ≤ cs.length) : (setRange cs o new).length = cs.length ∧ ∀ (i : Nat) (ck : CK × E), (setRange cs o new)[i]? = some ck → (o ≤ i ∧ i < o + new.length ∧ new[i - o]? = some ck) ∨ ((i < o ∨ o + new.length ≤ i) ∧ cs[i]? = some ck) := by
  unfold setRange
  refine ⟨by simp; omega, fun i ck hi => ?_⟩
  by_cases h1 : i < o
  · right
    rw [List.getElem?_append_left (by simp; omega), List.getElem?_append_left (by simp; omega), List.getElem?_take, if_pos h1] at hi
    exact ⟨.inl h1, hi⟩
  · by_cases h2 : i < o + new.length
    · left
      rw [List.getElem?_append_left (by simp; omega), List.getElem?_append_right (by simp; omega)] at hi
      refine ⟨by omega, h2, ?_⟩
      have : (List.take o cs).length = o := by simp; omega
      rw [this] at hi; exact hi
    · right
      rw [List.getElem?_append_right (by simp; omega), List.getElem?_drop] at hi
      refine ⟨.inr (by omega), ?_⟩
      have : (List.take o cs ++ new).length = o + new.length := by simp; omega
      rw [this, show o + new.length + (i - (o + new.length)) = i from by omega] at hi
      exact hi

/-- a store into a variable: its cells, some of them new -/
theorem storeM_core (hok : Ok B G w h) {p o b : Nat} {cs new : List (CK × E)} {cur row : Array Value} {ty : TypeId} (hbl : h.bl p 0 = some b) (hh : w.heap[b]? = some (.cells cur ty (0, 0))) (hcs : RelCs c.P B s w h p cs cur)
    (hsz : row.size = cur.size) (hle : o + new.length ≤ cs.length) (hrow : ∀ i, i < o ∨ o + new.length ≤ i → row.getD i undef = cur.getD i undef) {ts : List Nat} {f : Nat → Option Nat} (hpt : p ∉ ts)
    (hf0 : f 0 = h.bl p 0) (hfout : ∀ i, i < o ∨ o + new.length ≤ i → f (i + 1) = h.bl p (i + 1)) (hfin : ∀ i x, i < new.length → f (o + i + 1) = some x → h.bl p (o + i + 1) = some x ∨ ∃ t ∈ ts, ∃ j, h.bl t j = some x)
    (hinj : ∀ i j x, f i = some x → f j = some x → i = j)
    (hnew : ∀ (i : Nat) (ck : CK × E), new[i]? = some ck → RelC c.P B s w h (f (o + i + 1)) ck.1 ck.2 (row.getD (o + i) undef)) (tm : Nat → Option Value) :
    ∃ h', Ok B G (w.setRow b row) h' ∧ Step B (p :: ts) ts [] w (w.setRow b row) h h' ∧
      RelK c.P B s (w.setRow b row) h' tm p (.pointer (some ⟨b, 0, none⟩)) (.mem (setRange cs o new)) := by
  obtain ⟨hbB, hblt, hbF⟩ := hok.b_lt p 0 b hbl
  obtain ⟨hsl, hget⟩ := setRange_get hle
  have hFs : Same h.F w (w.setRow b row) := setRow_same hok _ fun x hx e => hbF (e ▸ hx)
  have hfb : ∀ i x, f (i + 1) = some x → x ≠ b ∧ ((h.bl p (i + 1) = some x) ∨ ∃ t ∈ ts, ∃ j, h.bl t j = some x) := by
    intro i x hx
    have h2 : h.bl p (i + 1) = some x ∨ ∃ t ∈ ts, ∃ j, h.bl t j = some x := by
      by_cases hin : o ≤ i ∧ i < o + new.length
      · have := hfin (i - o) x (by omega)
        rw [show o + (i - o) + 1 = i + 1 from by omega] at this
        exact this hx
      · rw [hfout i (by omega)] at hx; exact .inl hx
    refine ⟨fun e => ?_, h2⟩
    subst e
    rcases h2 with h2 | ⟨t, ht, j, hj⟩
    · have := (hok.inj p 0 p (i + 1) x hbl h2).2; omega
    · exact hpt ((hok.inj p 0 t j x hbl hj).1 ▸ ht)
  refine ⟨h.put p f (lost h ts), hok.put (by simp [World.setRow]) (fun u i x _ hx => (lost_some hx).1) (fun i x hx => .inr ?_) hinj (fun i x u j hu hi hj => ?_),
    step_put (below_setRow w hbB _) (fun x hx hn => setRow_other w b x _ fun e => hn p (by simp) 0 (e ▸ hbl)) (by simp) (fun t ht => ⟨by simp [ht], ht⟩) (fun _ => hf0), b, row, ty, by simp [GH.put, hf0, hbl], rfl, setRow_heap w b cur _ ty (0, 0) hh, by rw [hsz, hcs.1, hsl], fun i ck hi => ?_⟩
  · cases i with
    | zero => rw [hf0] at hx; exact ⟨p, 0, hx⟩
    | succ i =>
      rcases (hfb i x hx).2 with h2 | ⟨t, _, j, hj⟩
      · exact ⟨p, i + 1, h2⟩
      · exact ⟨t, j, hj⟩
  · obtain ⟨k1, k2⟩ := lost_some hj
    cases i with
    | zero => rw [hf0] at hi; exact hu (hok.inj u j p 0 x k1 hi).1
    | succ i =>
      rcases (hfb i x hi).2 with h2 | ⟨t, ht, j', hj'⟩
      · exact hu (hok.inj u j p (i + 1) x k1 h2).1
      · exact k2 ((hok.inj u j t j' x k1 hj').1 ▸ ht)
  · have hbl' : (h.put p f (lost h ts)).bl p (i + 1) = f (i + 1) := by simp [GH.put]
    rw [hbl']
    have hkeep : ∀ x, f (i + 1) = some x → (w.setRow b row).heap[x]? = w.heap[x]? := fun x hx => setRow_other w b x _ (hfb i x hx).1
    rcases hget i ck hi with ⟨h1, h2, h3⟩ | ⟨h1, h3⟩
    · have := hnew (i - o) ck h3
      rw [show o + (i - o) = i from by omega] at this
      exact this.keep hFs (fun _ hb => hb) hkeep
    · have := hcs.2 i ck h3
      rw [hrow i h1, hfout i h1]
      rw [hfout i h1] at hkeep
      exact this.keep hFs (fun _ hb => hb) hkeep

theorem putM_some {p o : Nat} {new : List (CK × E)} {k : TK} (hp : putM g p o new = some k) : ∃ cs, memOf g p = some cs ∧ o + new.length ≤ cs.length ∧ k = .mem (setRange cs o new) := by
  unfold putM at hp
  simp only [Option.bind_eq_some_iff] at hp
  obtain ⟨cs, hm, hp⟩ := hp
  split at hp
  · simp only [Option.some.injEq] at hp
    exact ⟨cs, hm, by assumption, hp.symm⟩
  · cases hp

/-- a value put into a variable from place o on -/
theorem storeM_fin (hr : RelG c B G s a w h g) {T : TypeId} (hT : okT c.P T = true) {p o b : Nat} {new : List (CK × E)} {k : TK} (hp : putM g p o new = some k) (hbl : h.bl p 0 = some b) {v : Value} (hn : v.cells.size = c.P.cellsOf T) (hlen : new.length = c.P.cellsOf T)
    {ts : List Nat} {f : Nat → Option Nat} (hpt : p ∉ ts) (hf0 : f 0 = h.bl p 0) (hfout : ∀ i, i < o ∨ o + new.length ≤ i → f (i + 1) = h.bl p (i + 1)) (hfin : ∀ i x, i < new.length → f (o + i + 1) = some x → h.bl p (o + i + 1) = some x ∨ ∃ t ∈ ts, ∃ j, h.bl t j = some x)
    (hinj : ∀ i j x, f i = some x → f j = some x → i = j)
    (hnew : ∀ (i : Nat) (ck : CK × E), new[i]? = some ck → RelC c.P B s w h (f (o + i + 1)) ck.1 ck.2 (v.cells.getD i undef)) :
    ∃ w' h', (Instr.storeAt T (.pointer (some ⟨b, o, none⟩)) v).run c.P w = .ok () w' ∧ Ok B G w' h' ∧ Step B (p :: ts) ts [] w w' h h' ∧ ∃ u, a.tmps[p]? = some u ∧ RelK c.P B s w' h' (fun p => a.tmps[p]?) p u k := by
  obtain ⟨cs, hm, hle, rfl⟩ := putM_some hp
  obtain ⟨b', cur, ty, h1, htm, hh, hcs⟩ := hr.memOf hm
  rw [hbl] at h1; cases h1
  have hle' : o + v.cells.size ≤ cur.size := by rw [hcs.1, hn, ← hlen]; exact hle
  have hvn : v.cells.size = new.length := by rw [hn, hlen]
  obtain ⟨h', k1, k2, k3⟩ := storeM_core (row := rowSet cur o v.cells) hr.ok hbl hh hcs (rowSet_size hle') hle (fun i hi => rowSet_out hle' (by omega)) hpt hf0 hfout hfin hinj (fun i ck hi => by
    rw [rowSet_in hle' (by rw [hvn]; exact (List.getElem?_eq_some_iff.1 hi).1)]
    exact hnew i ck hi) (fun p => a.tmps[p]?)
  refine ⟨_, h', run_storeRow hT hh hn (fun i hi => ?_) hle', k1, k2, _, htm, k3⟩
  exact (hnew i new[i] (List.getElem?_eq_getElem (by omega))).cell

/-- cells of a value that is kept -/
theorem vals_rel {n : Nat} {e : E} {z : V} {v : Value} (hz : eval s e = some z) (ht : ∀ l, z ≠ .tup l) (hrd : Rd w h.F z v) (o : Option Nat) {i : Nat} {ck : CK × E} (hlt : i < z.cells.length) (hi : ck = (CK.fz, E.fld e i)) : RelC c.P B s w h o ck.1 ck.2 (v.cells.getD i undef) := by
  subst hi
  obtain ⟨hs1, hs2, hs3⟩ := hrd.cells ht
  have hget : z.cells[i]? = some z.cells[i] := List.getElem?_eq_getElem hlt
  refine ⟨z.cells[i], ?_, hs2 _ (List.getElem_mem _), hs3 i _ hget⟩
  simp only [eval, hz, Option.bind_some, fldV, pc_eq ht, hget]
  unfold oneV
  rw [if_pos (hs2 _ (List.getElem_mem _))]
theorem range_map_get {β : Type} {n i : Nat} {f : Nat → β} {y : β} (hi : ((List.range n).map f)[i]? = some y) : i < n ∧ y = f i := by
  simp only [List.getElem?_map, Option.map_eq_some_iff] at hi
  obtain ⟨j, hj, rfl⟩ := hi
  have hlt : i < n := by simpa using (List.getElem?_eq_some_iff.1 hj).1
  have : j = i := by simpa [hlt] using hj.symm
  exact ⟨hlt, by rw [this]⟩

theorem mkStoreM_run (hr : RelG c B G s a w h g) {T : TypeId} (hT : okT c.P T = true) (hT1 : isAggT c.P T = true ∨ c.P.cellsOf T = 1) {p o : Nat} {x : Operand} {m : MS} (hm : mkStoreM c g T p o x = some m) (hes : ∀ e ∈ m.es, ∃ z, eval s e = some z) {b : Nat} (hbl : h.bl p 0 = some b) :
    ∃ w' h', (Instr.storeAt T (.pointer (some ⟨b, o, none⟩)) (a.eval x)).run c.P w = .ok () w' ∧ MPost c B G s a w w' h h' m := by
  have hthaw : ∀ fz, (h.thaw fz).bl p 0 = some b := fun fz => by simp [GH.thaw, hbl]
  unfold mkStoreM at hm
  simp only at hm
  split at hm
  · rename_i hag
    split at hm
    · rename_i t cs hk
      split at hm
      · rename_i hcond
        obtain ⟨hl, htp, _⟩ := hcond
        simp only [Option.map_eq_some_iff] at hm
        obtain ⟨k, hput, rfl⟩ := hm
        obtain ⟨v, hv, ⟨vs, rfl, hcs⟩, _⟩ := hr.look (holds_ix0 s c) (show look g [] t = _ from hk) rfl
        rw [Act.eval_tmp a t _ hv]
        obtain ⟨w', h', e1, e2, e3, e4⟩ := storeM_fin hr hT hput hbl (v := .agg vs) (by show vs.size = _; rw [hcs.1, hl]) hl (ts := [t]) (f := fun i => if o + 1 ≤ i ∧ i < o + 1 + cs.length then h.bl t (i - o) else h.bl p i) (by simpa using Ne.symm htp)
          (if_neg (by omega)) (fun i hi => if_neg (by omega)) (fun i x hi hx => .inr ⟨t, by simp, _, by rw [if_pos (by omega)] at hx; exact hx⟩) (fun i j x hi hj => by
            split at hi <;> split at hj
            · have := (hr.ok.inj t _ t _ x hi hj).2; omega
            · exact absurd (hr.ok.inj t _ p _ x hi hj).1 htp
            · exact absurd (hr.ok.inj t _ p _ x hj hi).1 htp
            · exact (hr.ok.inj p _ p _ x hi hj).2)
          (fun i ck hi => by
            have hlt := (List.getElem?_eq_some_iff.1 hi).1
            rw [if_pos (by omega), show o + i + 1 - o = i + 1 from by omega]
            exact hcs.2 i ck hi)
        exact ⟨w', h', e1, e3, e2, ent_one (ts := [t]) e4⟩
      · cases hm
    · simp only [Option.bind_eq_some_iff, Option.map_eq_some_iff] at hm
      obtain ⟨b0, hb0, k, hput, rfl⟩ := hm
      obtain ⟨z, hz⟩ := hes _ (List.Mem.head _)
      obtain ⟨k1, k2, k3, k4⟩ := kept1 hr hb0 hz
      obtain ⟨hs1, hs2, hs3⟩ := k4.cells k1
      obtain ⟨w', h', e1, e2, e3, e4⟩ := storeM_fin (hr.frz b0.2) hT hput (hthaw _) (hs1.trans (k2 rfl)) (by simp) (ts := []) (f := (h.thaw b0.2).bl p) (by simp) rfl (fun _ _ => rfl) (fun i x _ hx => .inl hx)
        (fun i j x hi hj => ((thaw_step hr.ok b0.2).1.inj p i p j x hi hj).2) (fun i ck hi => by
          obtain ⟨hlt, rfl⟩ := range_map_get hi
          exact vals_rel (n := 0) hz k1 k4 _ (by rw [k2 rfl]; exact hlt) rfl)
      exact ⟨w', h', e1, e3.after, e2, ent_one (ts := []) e4⟩
  · rename_i hag
    have h1 : c.P.cellsOf T = 1 := hT1.resolve_left hag
    split at hm
    · rename_i t ty e hk
      split at hm
      · rename_i hcond
        obtain ⟨htp, _⟩ := hcond
        simp only [Option.map_eq_some_iff] at hm
        obtain ⟨k, hput, rfl⟩ := hm
        obtain ⟨v, hv, ⟨y, hy, hown⟩, _⟩ := hr.look (holds_ix0 s c) (show look g [] t = _ from hk) rfl
        rw [Act.eval_tmp a t _ hv]
        have hvc : v.cells = #[v] := by
          rcases hown with ⟨l, xs, _, _, _, ⟨_, hc⟩, _⟩ | ⟨_, _, _, _, _, _, _, rfl, _⟩
          · rcases hc with ⟨rfl, _⟩ | ⟨_, _, _, rfl, _⟩ <;> rfl
          · rfl
        obtain ⟨w', h', e1, e2, e3, e4⟩ := storeM_fin hr hT hput hbl (v := v) (by rw [hvc, h1]; rfl) (by rw [h1]; rfl) (ts := [t]) (f := fun i => if i = o + 1 then h.bl t 1 else h.bl p i) (by simpa using Ne.symm htp)
          (if_neg (by omega)) (fun i hi => if_neg (by simp only [List.length_singleton] at hi; omega)) (fun i x hi hx => .inr ⟨t, by simp, 1, by simp only [List.length_singleton] at hi; rw [if_pos (by omega)] at hx; exact hx⟩) (fun i j x hi hj => by
            split at hi <;> split at hj
            · omega
            · exact absurd (hr.ok.inj t _ p _ x hi hj).1 htp
            · exact absurd (hr.ok.inj t _ p _ x hj hi).1 htp
            · exact (hr.ok.inj p _ p _ x hi hj).2)
          (fun i ck hi => by
            cases i with
            | zero => simp at hi; subst hi; rw [if_pos (by omega), hvc]; exact ⟨y, hy, hown⟩
            | succ i => simp at hi)
        exact ⟨w', h', e1, e3, e2, ent_one (ts := [t]) e4⟩
      · cases hm
    · rename_i hk
      simp only [Option.map_eq_some_iff] at hm
      obtain ⟨k, hput, rfl⟩ := hm
      rw [opK_nil hr (holds_ix0 s c) hk]
      obtain ⟨w', h', e1, e2, e3, e4⟩ := storeM_fin hr hT hput hbl (v := .slice none 0 0) (by rw [h1]; rfl) (by rw [h1]; rfl) (ts := []) (f := h.bl p) (by simp) rfl (fun _ _ => rfl) (fun i x _ hx => .inl hx)
        (fun i j x hi hj => (hr.ok.inj p i p j x hi hj).2) (fun i ck hi => by
          cases i with
          | zero => simp at hi; subst hi; exact ⟨rfl, rfl⟩
          | succ i => simp at hi)
      exact ⟨w', h', e1, e3, e2, ent_one (ts := []) e4⟩
    · simp only [Option.bind_eq_some_iff, Option.map_eq_some_iff] at hm
      obtain ⟨b0, hb0, k, hput, rfl⟩ := hm
      obtain ⟨z, hz⟩ := hes _ (List.Mem.head _)
      obtain ⟨hz1, hzo⟩ := oneE_eval hz
      have k4 := kept0 hr hb0 hz1
      obtain ⟨hs1, hs2, hs3⟩ := k4.cells (one_not_tup hzo)
      rw [one_cells hzo] at hs1 hs3
      obtain ⟨w', h', e1, e2, e3, e4⟩ := storeM_fin (hr.frz b0.2) hT hput (hthaw _) (hs1.trans (by rw [h1]; rfl)) (by rw [h1]; rfl) (ts := []) (f := (h.thaw b0.2).bl p) (by simp) rfl (fun _ _ => rfl) (fun i x _ hx => .inl hx)
        (fun i j x hi hj => ((thaw_step hr.ok b0.2).1.inj p i p j x hi hj).2) (fun i ck hi => by
          cases i with
          | zero => simp at hi; subst hi; exact ⟨z, hz, hzo, hs3 0 z rfl⟩
          | succ i => simp at hi)
      exact ⟨w', h', e1, e3.after, e2, ent_one (ts := []) e4⟩
end
end Vm
