/-
  Structs built of parts.
-/
import Derived.Test.YtbmgnmjghhakhaaVi
namespace Vm
open Go
open Go.RowKit (Below)
set_option linter.unusedSimpArgs false
set_option linter.unusedVariables false

/-- from which slot a cell that is a list of the call's own comes -/
def slotOf : List (CK × E) → List Nat → Nat → Option Nat
  | [], _, _ => none
  | (.own _, _) :: _, t :: _, 0 => some t
  | (.own _, _) :: r, _ :: ts, i + 1 => slotOf r ts i
  | (.own _, _) :: _, [], _ => none
  | _ :: _, _, 0 => none
  | _ :: r, ts, i + 1 => slotOf r ts i
def owns : List (CK × E) → Nat
  | [] => 0
  | (.own _, _) :: r => owns r + 1
  | _ :: r => owns r
theorem slotOf_left : ∀ {l : List (CK × E)} {ts us : List Nat} {r : List (CK × E)} {i : Nat}, owns l = ts.length → i < l.length → slotOf (l ++ r) (ts ++ us) i = slotOf l ts i
  | [], _, _, _, _, _, hi => by simp at hi
  | (k, e) :: l, ts, us, r, i, ho, hi => by
    cases k with
    | own ty =>
      cases ts with
      | nil => simp [owns] at ho
      | cons t ts =>
        simp only [owns, List.length_cons, Nat.add_right_cancel_iff] at ho
        cases i with
        | zero => simp [slotOf]
        | succ i => simpa [slotOf] using slotOf_left ho (by simpa using hi)
    | _ =>
      simp only [owns] at ho
      cases i with
      | zero => simp [slotOf]
      | succ i => simpa [slotOf] using slotOf_left ho (by simpa using hi)
theorem slotOf_right : ∀ {l : List (CK × E)} {ts us : List Nat} {r : List (CK × E)} {i : Nat}, owns l = ts.length → slotOf (l ++ r) (ts ++ us) (l.length + i) = slotOf r us i
  | [], ts, us, r, i, ho => by
    have : ts = [] := List.eq_nil_of_length_eq_zero (by simpa [owns] using ho.symm)
    subst this
    simp
  | (k, e) :: l, ts, us, r, i, ho => by
    have e1 : (l.length + 1 + i) = (l.length + i) + 1 := by omega
    cases k with
    | own ty =>
      cases ts with
      | nil => simp [owns] at ho
      | cons t ts =>
        simp only [owns, List.length_cons, Nat.add_right_cancel_iff] at ho
        simp only [List.length_cons, List.cons_append, e1, slotOf]
        exact slotOf_right ho
    | _ =>
      simp only [owns] at ho
      simp only [List.length_cons, List.cons_append, e1, slotOf]
      exact slotOf_right ho
theorem owns_append : ∀ (l r : List (CK × E)), owns (l ++ r) = owns l + owns r
  | [], r => by simp [owns]
  | (k, e) :: l, r => by
    cases k <;> simp only [List.cons_append, owns, owns_append l r] <;> omega

section
variable {c : Ctx} {B : Nat} {G : Nat → Prop} {s : St} {a : Act} {w w' : World} {h : GH} {g : Gam} {C : Conds}

/-- a cell of an aggregate that is built -/
def BRel (c : Ctx) (B : Nat) (s : St) (a : Act) (w : World) (h : GH) (cs : List (CK × E)) (ts sh : List Nat) (i : Nat) (ck : CK × E) (v : Value) : Prop :=
  match ck.1 with
  | .own ty => ∃ t, slotOf cs ts i = some t ∧ t ∈ ts ∧ a.tmps[t]? = some v ∧ ∃ x, eval s ck.2 = some x ∧ OwnV c.P B w h (h.bl t 1) ty x v
  | .nil => v = .slice none 0 0 ∧ eval s ck.2 = some (.sl [])
  | .fz => ∃ x, eval s ck.2 = some x ∧ x.one = true ∧ Rd w (h.ext sh) x v
  | .dead => False

theorem zeroPart_rel {zs : List V} {z : Array Value} (hz : ∀ (j : Nat) (v : Value), z[j]? = some v → ∃ x, zs[j]? = some x ∧ cellV v = some x) (hsz : z.size = zs.length) (o n : Nat) :
    owns (zeroPart zs o n).1 = 0 ∧ ∀ (cs : List (CK × E)) (ts sh : List Nat) (i : Nat) (j : Nat) (ck : CK × E), (zeroPart zs o n).1[j]? = some ck → BRel c B s a w h cs ts sh i ck (z.getD (o + j) undef) := by
  constructor
  · unfold zeroPart
    simp only
    induction (List.take n (List.drop o zs)) with
    | nil => rfl
    | cons x r ih => cases x <;> simpa [owns] using ih
  · intro cs ts sh i j ck hj
    simp only [zeroPart, List.getElem?_map, Option.map_eq_some_iff] at hj
    obtain ⟨x, hx, rfl⟩ := hj
    rw [List.getElem?_take] at hx
    split at hx
    · rw [List.getElem?_drop] at hx
      have hlt : o + j < z.size := by rw [hsz]; exact (List.getElem?_eq_some_iff.1 hx).1
      obtain ⟨x', hx', hc⟩ := hz (o + j) z[o + j] (Array.getElem?_eq_getElem hlt)
      rw [hx] at hx'; cases hx'
      have hget : z.getD (o + j) undef = z[o + j] := by simp [hlt]
      rw [hget]
      generalize z[o + j] = v at hc
      unfold cellV at hc
      split at hc <;> first
        | (simp only [Option.some.injEq] at hc; subst hc; first | exact ⟨_, rfl, rfl, .int _ _⟩ | exact ⟨_, rfl, rfl, .bool _⟩ | exact ⟨_, rfl, rfl, .str _⟩ | exact ⟨rfl, rfl⟩ | exact ⟨_, rfl, rfl, .nomp⟩)
        | (split at hc <;> first
            | (rename_i hs
               simp only [Option.some.injEq] at hc; subst hc
               rw [Array.eq_empty_of_size_eq_zero hs.1, Array.eq_empty_of_size_eq_zero hs.2]; exact ⟨_, rfl, rfl, .fn _⟩)
            | simp at hc)
        | simp at hc
    · simp at hx

theorem fld_of {e : E} {n j : Nat} {z : V} (hz : eval s (.fld e j) = some z) : ∃ y, eval s e = some y ∧ y.pc[j]? = some z ∧ z.one = true := by
  simp only [eval, Option.bind_eq_some_iff] at hz
  obtain ⟨y, hy, hf⟩ := hz
  have h1 := fldV_some hf
  unfold fldV at hf
  rw [h1] at hf
  exact ⟨y, hy, h1, (oneV_some hf).2⟩
theorem pc_eq {x : V} (h : ∀ l, x ≠ .tup l) : x.pc = x.cells := by
  cases x <;> first | rfl | exact absurd rfl (h _)

/-- a value that is kept, cell by cell -/
theorem kept_cells (hr : RelG c B G s a w h g) (hC : holds s (ixC c C)) {x : Operand} {b0 : E × List Nat} (hx : opE g C x = some b0) {ag fl : Bool} {n : Nat} (hn : n ≠ 0) {z : V}
    (hz : eval s (tyE ag n (flE fl b0).1) = some z) :
    (∀ l, z ≠ .tup l) ∧ (ag = true → z.cells.length = n) ∧ (ag = false → z.one = true) ∧ Rd w (h.ext (flE fl b0).2) z (a.eval x) := by
  obtain ⟨y, hy, hyr⟩ := opE_rd hr hC (show opE g C x = some (b0.1, b0.2) from hx)
  obtain ⟨h1, h2, h3, h4⟩ := tyE_eval hz
  obtain ⟨z', hz', hzr⟩ := flE_rd (fl := fl) (b := b0) hy hyr ⟨z, h1⟩
  rw [h1] at hz'; cases hz'
  exact ⟨h2, h3, h4, hzr⟩

theorem partCells_rel (hr : RelG c B G s a w h g) (hC : holds s (ixC c C)) {n : Nat} (hn : n ≠ 0) {ag fl : Bool} {x : Operand} {b : BC} (hp : partCells g C n ag fl x = some b) (hlen : b.1.length = n)
    (hev : ∀ ck ∈ b.1, ∃ z, eval s ck.2 = some z) :
    owns b.1 = b.2.2.length ∧ (a.eval x).cells.size = n ∧ ∀ (sh : List Nat), (∀ t ∈ b.2.1, t ∈ sh) → ∀ (j : Nat) (ck : CK × E), b.1[j]? = some ck → BRel c B s a w h b.1 b.2.2 sh j ck ((a.eval x).cells.getD j undef) := by
  have rest : ∀ {b : BC}, ((opE g C x).map fun a0 => let a := flE fl a0; let e := tyE ag n a.1; (if ag then (List.range n).map fun j => (CK.fz, E.fld e j) else [(.fz, e)], a.2, [])) = some b → b.1.length = n → (∀ ck ∈ b.1, ∃ z, eval s ck.2 = some z) →
      owns b.1 = b.2.2.length ∧ (a.eval x).cells.size = n ∧ ∀ (sh : List Nat), (∀ t ∈ b.2.1, t ∈ sh) → ∀ (j : Nat) (ck : CK × E), b.1[j]? = some ck → BRel c B s a w h b.1 b.2.2 sh j ck ((a.eval x).cells.getD j undef) := by
    intro b hb hlen hev
    simp only [Option.map_eq_some_iff] at hb
    obtain ⟨b0, hx, rfl⟩ := hb
    have hmono : ∀ (sh : List Nat), (∀ t ∈ (flE fl b0).2, t ∈ sh) → ∀ b, h.ext (flE fl b0).2 b → h.ext sh b := by
      intro sh hsh b hb
      rcases hb with hb | ⟨p, hp, i, hi⟩
      · exact .inl hb
      · exact .inr ⟨p, hsh p hp, i, hi⟩
    cases ag with
    | true =>
      simp only [if_true] at hlen hev ⊢
      have h0 := hev (CK.fz, E.fld (tyE true n (flE fl b0).1) 0) (List.mem_map.2 ⟨0, List.mem_range.2 (by omega), rfl⟩)
      obtain ⟨z0, hz0⟩ := h0
      obtain ⟨y, hy, _, _⟩ := fld_of (n := n) hz0
      obtain ⟨h1, h2, _, h4⟩ := kept_cells hr hC hx hn hy
      obtain ⟨hs1, hs2, hs3⟩ := h4.cells h1
      refine ⟨?_, by rw [hs1, h2 rfl], fun sh hsh j ck hj => ?_⟩
      · generalize List.range n = l
        induction l with
        | nil => rfl
        | cons q r ih => simpa [owns] using ih
      · simp only [List.getElem?_map, Option.map_eq_some_iff] at hj
        obtain ⟨j', hj', rfl⟩ := hj
        have hlt : j < n := by simpa using (List.getElem?_eq_some_iff.1 hj').1
        have hjj : j' = j := by simpa [hlt] using hj'.symm
        subst hjj
        have hget : y.cells[j']? = some (y.cells[j']'(by rw [h2 rfl]; exact hlt)) := List.getElem?_eq_getElem _
        refine ⟨_, ?_, hs2 _ (List.mem_of_getElem? hget), (hs3 j' _ hget).mono (hmono sh hsh)⟩
        simp only [eval, hy, Option.bind_some, fldV, pc_eq h1, hget]
        unfold oneV
        rw [if_pos (hs2 _ (List.mem_of_getElem? hget))]
    | false =>
      simp only [Bool.false_eq_true, if_false] at hlen hev ⊢
      obtain ⟨y, hy⟩ := hev (CK.fz, tyE false n (flE fl b0).1) (List.mem_singleton.2 rfl)
      have hy : eval s (tyE false n (flE fl b0).1) = some y := hy
      obtain ⟨h1, _, h3, h4⟩ := kept_cells hr hC hx hn hy
      obtain ⟨hs1, hs2, hs3⟩ := h4.cells h1
      rw [one_cells (h3 rfl)] at hs1 hs3
      refine ⟨rfl, by rw [hs1]; simpa using hlen, fun sh hsh j ck hj => ?_⟩
      cases j with
      | zero =>
        simp at hj; subst hj
        exact ⟨y, hy, h3 rfl, (hs3 0 y rfl).mono (hmono sh hsh)⟩
      | succ j => simp at hj
  unfold partCells at hp
  split at hp
  · rename_i t ty e hk
    simp only [Option.some.injEq] at hp
    subst hp
    obtain ⟨v, hv, ⟨x, hx, ho⟩, _⟩ := hr.look hC (show look g C t = _ from hk) rfl
    have hone : v.cells = #[v] := by
      rcases ho with ⟨l, xs, _, _, _, ⟨_, hc⟩, _⟩ | ⟨_, _, _, _, _, _, _, rfl, _⟩
      · rcases hc with ⟨rfl, _⟩ | ⟨_, _, _, rfl, _⟩ <;> rfl
      · rfl
    rw [Act.eval_tmp a t v hv, hone]
    refine ⟨rfl, by simpa using hlen, fun sh hsh j ck hj => ?_⟩
    cases j with
    | zero =>
      simp at hj; subst hj
      exact ⟨t, rfl, by simp, by simpa using hv, x, hx, by simpa using ho⟩
    | succ j => simp at hj
  · rename_i hk
    simp only [Option.some.injEq] at hp
    subst hp
    rw [opK_nil hr hC hk]
    refine ⟨rfl, by simpa [Value.cells] using hlen, fun sh hsh j ck hj => ?_⟩
    cases j with
    | zero => simp at hj; subst hj; exact ⟨rfl, rfl⟩
    | succ j => simp at hj
  · exact rest hp hlen hev

theorem BRel.left {cs r : List (CK × E)} {ts us sh : List Nat} {i : Nat} {ck : CK × E} {v : Value} (hb : BRel c B s a w h cs ts sh i ck v) (ho : owns cs = ts.length) (hi : i < cs.length) : BRel c B s a w h (cs ++ r) (ts ++ us) sh i ck v := by
  unfold BRel at *
  split at hb
  · obtain ⟨t, h1, h2, h3⟩ := hb
    exact ⟨t, by rw [slotOf_left ho hi]; exact h1, by simp [h2], h3⟩
  · exact hb
  · exact hb
  · exact hb
theorem BRel.right {cs r : List (CK × E)} {ts us sh : List Nat} {i : Nat} {ck : CK × E} {v : Value} (hb : BRel c B s a w h r us sh i ck v) (ho : owns cs = ts.length) : BRel c B s a w h (cs ++ r) (ts ++ us) sh (cs.length + i) ck v := by
  unfold BRel at *
  split at hb
  · obtain ⟨t, h1, h2, h3⟩ := hb
    exact ⟨t, by rw [slotOf_right ho]; exact h1, by simp [h2], h3⟩
  · exact hb
  · exact hb
  · exact hb

/-- field by field -/
theorem buildFrom_rel (hr : RelG c B G s a w h g) (hC : holds s (ixC c C)) {zs : List V} {parts : List (Nat × Operand)} {z : Array Value} (hz : ∀ (j : Nat) (v : Value), z[j]? = some v → ∃ x, zs[j]? = some x ∧ cellV v = some x) (hsz : z.size = zs.length) (sh : List Nat) :
    ∀ (fs : List (Nat × Nat × Bool × Bool)) (i o : Nat) (b : BC), buildFrom g C zs parts fs i o = some b → (∀ ck ∈ b.1, ∃ z, eval s ck.2 = some z) → (∀ t ∈ b.2.1, t ∈ sh) →
      o + b.1.length = zs.length ∧ owns b.1 = b.2.2.length ∧
      (∀ (q : Nat) (f : Nat × Nat × Bool × Bool), fs[q]? = some f → o ≤ f.1 ∧ f.1 + f.2.1 ≤ zs.length ∧ (∀ (q' : Nat) (f' : Nat × Nat × Bool × Bool), fs[q']? = some f' → q < q' → f.1 + f.2.1 ≤ f'.1)) ∧
      (∀ (q : Nat) (f : Nat × Nat × Bool × Bool) (p : Nat × Operand), fs[q]? = some f → parts.find? (fun p => p.1 == i + q) = some p → (a.eval p.2).cells.size = f.2.1) ∧
      ∀ R : Array Value, (∀ (q : Nat) (f : Nat × Nat × Bool × Bool), fs[q]? = some f → ∀ j, j < f.2.1 → R.getD (f.1 + j) undef = match parts.find? (fun p => p.1 == i + q) with | some p => (a.eval p.2).cells.getD j undef | none => z.getD (f.1 + j) undef) →
        ∀ (j : Nat) (ck : CK × E), b.1[j]? = some ck → BRel c B s a w h b.1 b.2.2 sh j ck (R.getD (o + j) undef)
  | [], i, o, b, hb, _, _ => by
    simp only [buildFrom] at hb
    split at hb
    · simp only [Option.some.injEq] at hb
      subst hb
      exact ⟨by simpa, rfl, fun q f hq => by simp at hq, fun q f p hq => by simp at hq, fun R _ j ck hj => by simp at hj⟩
    · simp at hb
  | f :: fs, i, o, b, hb, hev, hsh => by
    simp only [buildFrom, Option.bind_eq_some_iff] at hb
    obtain ⟨b1, hb1, hb⟩ := hb
    split at hb
    · rename_i hcond
      obtain ⟨ho, hl1, hn⟩ := hcond
      simp only [Option.map_eq_some_iff] at hb
      obtain ⟨b2, hb2, rfl⟩ := hb
      simp only [List.mem_append] at hev hsh
      obtain ⟨h1, h2, h3, h4, h5⟩ := buildFrom_rel hr hC hz hsz sh fs (i + 1) (o + f.2.1) b2 hb2 (fun ck hck => hev ck (.inr hck)) (fun t ht => hsh t (.inr ht))
      -- the first field
      have hfst : owns b1.1 = b1.2.2.length ∧ (∀ p, parts.find? (fun p => p.1 == i) = some p → (a.eval p.2).cells.size = f.2.1) ∧
          ∀ (j : Nat) (ck : CK × E), b1.1[j]? = some ck → BRel c B s a w h b1.1 b1.2.2 sh j ck (match parts.find? (fun p => p.1 == i) with | some p => (a.eval p.2).cells.getD j undef | none => z.getD (f.1 + j) undef) := by
        unfold partOr at hb1
        cases hfind : parts.find? (fun p => p.1 == i) with
        | some p =>
          simp only [hfind] at hb1
          obtain ⟨k1, k2, k3⟩ := partCells_rel hr hC hn hb1 hl1 fun ck hck => hev ck (.inl hck)
          exact ⟨k1, fun p' hp' => by cases hp'; exact k2, fun j ck hj => k3 sh (fun t ht => hsh t (.inl ht)) j ck hj⟩
        | none =>
          simp only [hfind, Option.some.injEq] at hb1
          subst hb1
          obtain ⟨k1, k2⟩ := zeroPart_rel (c := c) (B := B) (s := s) (a := a) (w := w) (h := h) hz hsz f.1 f.2.1
          exact ⟨k1, (fun p' hp' => by cases hp'), fun j ck hj => k2 _ _ sh j j ck hj⟩
      obtain ⟨f1, f2, f3⟩ := hfst
      refine ⟨by simp only [List.length_append]; omega, by simp only [owns_append, List.length_append, f1, h2], fun q f' hq => ?_, fun q f' p hq hp => ?_, fun R hR j ck hj => ?_⟩
      · cases q with
        | zero =>
          simp at hq; subst hq
          refine ⟨by omega, by omega, fun q' f' hq' hlt => ?_⟩
          cases q' with
          | zero => omega
          | succ q' => have := (h3 q' f' (by simpa using hq')).1; omega
        | succ q =>
          obtain ⟨g1, g2, g3⟩ := h3 q f' (by simpa using hq)
          refine ⟨by omega, g2, fun q' f'' hq' hlt => ?_⟩
          cases q' with
          | zero => omega
          | succ q' => exact g3 q' f'' (by simpa using hq') (by omega)
      · cases q with
        | zero => simp at hq; subst hq; exact f2 p (by simpa using hp)
        | succ q => exact h4 q f' p (by simpa using hq) (by rw [show i + 1 + q = i + (q + 1) from by omega]; exact hp)
      · by_cases hlt : j < b1.1.length
        · rw [List.getElem?_append_left hlt] at hj
          have hR0 := hR 0 f rfl j (by omega)
          rw [ho] at hR0
          rw [hR0]
          have := f3 j ck hj
          rw [ho] at this
          exact (this).left f1 hlt
        · rw [List.getElem?_append_right (by omega)] at hj
          have := h5 R (fun q f' hq j' hj' => by
            have := hR (q + 1) f' (by simpa using hq) j' hj'
            rw [show i + (q + 1) = i + 1 + q from by omega] at this
            exact this) (j - b1.1.length) ck hj
          have hres := this.right (cs := b1.1) (ts := b1.2.2) f1
          rw [show b1.1.length + (j - b1.1.length) = j from by omega] at hres
          rw [show o + f.2.1 + (j - b1.1.length) = o + j from by omega] at hres
          exact hres
    · simp at hb

theorem nodupB_spec : ∀ {l : List Nat}, nodupB l = true → l.Nodup
  | [], _ => List.nodup_nil
  | x :: l, hl => by
    simp only [nodupB, Bool.and_eq_true, Bool.not_eq_true', List.contains_eq_mem, decide_eq_false_iff_not] at hl
    exact List.nodup_cons.2 ⟨hl.1, nodupB_spec hl.2⟩
theorem find_of_nodup {β : Type} : ∀ {l : List (Nat × β)} {p : Nat × β}, (l.map (·.1)).Nodup → p ∈ l → l.find? (fun q => q.1 == p.1) = some p
  | [], p, _, hp => by simp at hp
  | q :: l, p, hn, hp => by
    simp only [List.map_cons, List.nodup_cons] at hn
    rcases List.mem_cons.1 hp with rfl | hp
    · simp
    · have hne : q.1 ≠ p.1 := fun he => hn.1 (by rw [he]; exact List.mem_map.2 ⟨p, hp, rfl⟩)
      rw [List.find?_cons_of_neg (by simpa using hne)]
      exact find_of_nodup hn.2 hp

theorem mapM_of {α β : Type} {f : α → Option β} {g : α → β} : ∀ (l : List α), (∀ x ∈ l, f x = some (g x)) → l.mapM f = some (l.map g)
  | [], _ => rfl
  | x :: l, hx => by
    rw [List.mapM_cons, hx x (by simp), mapM_of l fun y hy => hx y (by simp [hy])]
    rfl
/-- a struct of parts -/
theorem run_buildS (hr : RelG c B G s a w h g) (hC : holds s (ixC c C)) {T : TypeId} {fs : List (Nat × Nat × Bool × Bool)} (hT : tdOf c.P T = .st fs) {zs : List V} (hz : zeroCells c.P T = some zs) {parts : Array (Nat × Operand)} {b : BC}
    (hb : buildCells g C zs parts.toList fs = some b) (hev : ∀ ck ∈ b.1, ∃ z, eval s ck.2 = some z) :
    ∃ vs, (Instr.build T (parts.map fun (i, x) => (i, a.eval x))).run c.P w = .ok (.agg vs) w ∧ vs.size = b.1.length ∧ owns b.1 = b.2.2.length ∧
      ∀ (j : Nat) (ck : CK × E), b.1[j]? = some ck → BRel c B s a w h b.1 b.2.2 b.2.1 j ck (vs.getD j undef) := by
  unfold buildCells at hb
  split at hb
  · rename_i hcond
    simp only [Bool.and_eq_true, List.all_eq_true, decide_eq_true_eq] at hcond
    obtain ⟨hnd, hlt⟩ := hcond
    have hnd := nodupB_spec hnd
    obtain ⟨fds, hu, hok, rfl⟩ := td_st hT
    obtain ⟨i, z, hi, hz0, hsz, hcells⟩ := zeroCells_some hz
    obtain ⟨h1, h2, h3, h4, h5⟩ := buildFrom_rel hr hC hcells hsz b.2.1 _ 0 0 b hb hev (fun t ht => ht)
    simp only [Nat.zero_add] at h1 h4 h5
    -- the places
    have hpl : fds.toList.mapM (fun f => (c.P.info? f.type).map fun i => (f.offset, i.size)) = some (fds.toList.map fun f => (f.offset, c.P.cellsOf f.type)) := by
      apply mapM_of
      intro f hf
      obtain ⟨d, i, hd, hi, hs, _⟩ := okT_of (hok f (Array.mem_toList_iff.1 hf))
      simp [hi, hs]
    have hplace : ∀ (q off n : Nat), (fds.toList.map fun f => (f.offset, c.P.cellsOf f.type)).toArray[q]? = some (off, n) ↔ ∃ f : Nat × Nat × Bool × Bool, (fds.toList.map fun f => (f.offset, c.P.cellsOf f.type, isAggT c.P f.type, flatT c.P f.type))[q]? = some f ∧ f.1 = off ∧ f.2.1 = n := by
      intro q off n
      simp only [List.getElem?_toArray, List.getElem?_map, Option.map_eq_some_iff, Prod.mk.injEq]
      constructor
      · rintro ⟨f, hf, rfl, rfl⟩; exact ⟨_, ⟨f, hf, rfl⟩, rfl, rfl⟩
      · rintro ⟨_, ⟨f, hf, rfl⟩, rfl, rfl⟩; exact ⟨f, hf, rfl, rfl⟩
    have hmem : ∀ p ∈ parts.toList, ∃ f, (fds.toList.map fun f => (f.offset, c.P.cellsOf f.type, isAggT c.P f.type, flatT c.P f.type))[p.1]? = some f ∧ (a.eval p.2).cells.size = f.2.1 := by
      intro p hp
      have hl := hlt p hp
      refine ⟨_, List.getElem?_eq_getElem hl, h4 p.1 _ p (List.getElem?_eq_getElem hl) (find_of_nodup hnd hp)⟩
    obtain ⟨R, hR, hRs, hRout, hRin⟩ := fill_spec (fun x => (fds.toList.map fun f => (f.offset, c.P.cellsOf f.type)).toArray[x]?) (parts.toList.map fun p => (p.1, a.eval p.2)) z.cells (by
      intro p hp
      obtain ⟨p', hp', rfl⟩ := List.mem_map.1 hp
      obtain ⟨f, hf, hsf⟩ := hmem p' hp'
      refine ⟨f.1, (hplace _ _ _).2 ⟨f, hf, rfl, hsf.symm⟩, ?_⟩
      simp only
      rw [hsf, hsz]; exact (h3 _ f hf).2.1)
    have hbuilt : c.P.built T (parts.map fun (i, x) => (i, a.eval x)).toList = some R := by
      simp only [Program.built, hi, hu, hz0, hpl, Array.toList_map]
      exact hR
    refine ⟨R, run_build w T _ R hbuilt, by rw [hRs, hsz]; omega, h2, fun j ck hj => h5 R (fun q f hq j' hj' => ?_) j ck hj⟩
    have hdisj : ∀ q' f', (fds.toList.map fun f => (f.offset, c.P.cellsOf f.type, isAggT c.P f.type, flatT c.P f.type))[q']? = some f' → q' ≠ q → f.1 + f.2.1 ≤ f'.1 ∨ f'.1 + f'.2.1 ≤ f.1 := by
      intro q' f' hq' hne
      rcases Nat.lt_or_gt_of_ne hne with hl | hl
      · exact .inr ((h3 q' f' hq').2.2 q f hq hl)
      · exact .inl ((h3 q f hq).2.2 q' f' hq' hl)
    cases hfind : parts.toList.find? (fun p => p.1 == q) with
    | some p =>
      have hpm := List.mem_of_find?_eq_some hfind
      have hpq : p.1 = q := by simpa using List.find?_some hfind
      obtain ⟨pre, suf, hps⟩ := List.append_of_mem hpm
      obtain ⟨f', hf', hsf⟩ := hmem p hpm
      rw [hpq, hq] at hf'; cases hf'
      have hin := hRin (pre.map fun p => (p.1, a.eval p.2)) (p.1, a.eval p.2) (suf.map fun p => (p.1, a.eval p.2)) (by rw [hps]; simp) f.1 ((hplace _ _ _).2 ⟨f, by rw [hpq]; exact hq, rfl, hsf.symm⟩) (by
        intro q' hq' o n ho
        obtain ⟨p', hp', rfl⟩ := List.mem_map.1 hq'
        obtain ⟨f'', hf'', rfl, rfl⟩ := (hplace _ _ _).1 ho
        simp only
        rw [hsf]
        refine hdisj p'.1 f'' hf'' fun he => ?_
        rw [hps] at hnd
        simp only [List.map_append, List.map_cons, List.nodup_append, List.nodup_cons] at hnd
        exact hnd.2.1.1 (by rw [hpq, ← he]; exact List.mem_map.2 ⟨p', hp', rfl⟩)) j' (by simp only; rw [hsf]; exact hj')
      simp only [Array.getD_eq_getD_getElem?]
      rw [hin]
    | none =>
      have hout := hRout (f.1 + j') (by
        intro p hp off n ho
        obtain ⟨p', hp', rfl⟩ := List.mem_map.1 hp
        obtain ⟨f'', hf'', rfl, rfl⟩ := (hplace _ _ _).1 ho
        have hne : p'.1 ≠ q := fun he => by
          have := List.find?_eq_none.1 hfind p' hp'
          simp [he] at this
        have := hdisj p'.1 f'' hf'' hne
        omega)
      simp only [Array.getD_eq_getD_getElem?]
      rw [hout]
  · simp at hb
end
end Vm
