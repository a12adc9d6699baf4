/-
  Alike graphs: a map from the live nodes of the one to those of the other; acts keep it.
-/
import Derived.Test.YtbmgnmjghhakhaaLb
import Derived.Test.YtbmgnmjghhakhaaWl
namespace Vm
open Go Go.Proofs
set_option linter.unusedSimpArgs false
set_option linter.unusedVariables false
set_option maxRecDepth 100000
/-- f takes the nodes of S in g to such of h; S is closed -/
structure Iso (S : Int → Prop) (g h : Gr) (f : Int → Int) : Prop where
  neg : f (-1) = -1
  roots : h.roots = g.roots.map f
  rin : ∀ x ∈ g.roots, x = -1 ∨ S x
  inj : ∀ x y, S x → S y → f x = f y → x = y
  node : ∀ x, S x → 0 ≤ x ∧ 0 ≤ f x ∧ ∃ n, g.nodes[x.toNat]? = some n ∧ h.nodes[(f x).toNat]? = some ⟨n.ptrs.map f, n.data⟩ ∧ ∀ p ∈ n.ptrs, p = -1 ∨ S p
theorem noteL_sub {S : Int → Prop} {l o : List Int} (hl : ∀ x ∈ l, S x) (ho : ∀ x ∈ o, x = -1 ∨ S x) : ∀ x ∈ noteL l o, S x := fun x hx => by
  rcases noteL_mem.1 hx with h | ⟨h, h0⟩
  · exact hl x h
  · exact (ho x h).resolve_left (by omega)
theorem Iso.outs {S : Int → Prop} {g h : Gr} {f : Int → Int} (hi : Iso S g h f) {x : Int} (hx : S x) : ∀ p ∈ outs g x, p = -1 ∨ S p := by
  obtain ⟨_, _, n, hn, _, hp⟩ := hi.node x hx
  intro p hpp
  refine hp p ?_
  simpa [Vm.outs, hn] using hpp
theorem Iso.live {S : Int → Prop} {g h : Gr} {f : Int → Int} (hi : Iso S g h f) : ∀ x ∈ order g, S x := by
  have key : ∀ (F i : Nat) (l : List Int), (∀ x ∈ l, S x) → ∀ x ∈ orderL g F i l, S x := by
    intro F
    induction F with
    | zero => intro i l hl; exact hl
    | succ F ih =>
      intro i l hl
      simp only [orderL]
      cases hx : l[i]? with
      | none => exact hl
      | some y => exact ih _ _ (noteL_sub hl (hi.outs (hl y (List.mem_of_getElem? hx))))
  exact key _ _ _ (noteL_sub (by simp) hi.rin)
theorem Iso.canon {S : Int → Prop} {g h : Gr} {f : Int → Int} (hi : Iso S g h f) (hg : right g = true) (hh : right h = true) : canon h = canon g := by
  refine (canon_iso hg hh f hi.neg (fun x hx y hy => hi.inj x y (hi.live x hx) (hi.live y hy)) (fun x hx => (hi.node x (hi.live x hx)).2.1) hi.roots fun x hx => ?_).2
  obtain ⟨_, _, n, h1, h2, _⟩ := hi.node x (hi.live x hx)
  rw [h2]
  simp [Vm.outs, h1]
theorem order_length {g h : Gr} (he : canon g = canon h) : (order g).length = (order h).length := by
  have := congrArg (fun c => c.nodes.length) he
  simpa [Vm.canon] using this
def along (og oh : List Int) (x : Int) : Int := if 0 ≤ x then (oh[(at0 og x).toNat]?).getD (-1) else x
theorem along_moved {og oh : List Int} (ho : ∀ x ∈ oh, 0 ≤ x) : ∀ {ps qs : List Int}, movedL og ps = movedL oh qs → (∀ p ∈ ps, -1 ≤ p ∧ (0 ≤ p → p ∈ og)) → (∀ q ∈ qs, -1 ≤ q ∧ (0 ≤ q → q ∈ oh)) → qs = ps.map (along og oh)
  | [], [], _, _, _ => rfl
  | [], q :: qs, h, _, _ => by simp [movedL] at h
  | p :: ps, [], h, _, _ => by simp [movedL] at h
  | p :: ps, q :: qs, h, hp, hq => by
    simp only [movedL, List.map_cons, List.cons.injEq] at h
    obtain ⟨h1, h2⟩ := h
    have ih := along_moved ho (ps := ps) (qs := qs) h2 (fun p hpm => hp p (by simp [hpm])) (fun q hqm => hq q (by simp [hqm]))
    obtain ⟨p0, pm⟩ := hp p (by simp)
    obtain ⟨q0, qm⟩ := hq q (by simp)
    rw [List.map_cons, ← ih]
    congr 1
    unfold along
    by_cases hp0 : 0 ≤ p
    · rw [if_pos hp0] at h1 ⊢
      have hpa := at0_get (pm hp0)
      by_cases hq0 : 0 ≤ q
      · rw [if_pos hq0] at h1
        have hqa := at0_get (qm hq0)
        rw [h1, hqa.2.2]; rfl
      · rw [if_neg hq0] at h1; omega
    · rw [if_neg hp0] at h1 ⊢
      by_cases hq0 : 0 ≤ q
      · rw [if_pos hq0] at h1
        have hqa := at0_get (qm hq0)
        omega
      · rw [if_neg hq0] at h1; exact h1.symm
theorem iso_of_canon {g h : Gr} (hg : right g = true) (hh : right h = true) (he : Vm.canon g = Vm.canon h) : Iso (fun x => x ∈ order g) g h (along (order g) (order h)) := by
  have hl := order_length he
  have hgg := order_good hg
  have hgh := order_good hh
  have hpos : ∀ x ∈ order h, 0 ≤ x := fun x hx => (hgh.2 x hx).1
  have hps : ∀ {g : Gr}, right g = true → (∀ p ∈ g.roots, -1 ≤ p ∧ (0 ≤ p → p ∈ order g)) := fun hg p hp => ⟨(right_roots hg p hp).1, fun h0 => live_root hg hp h0⟩
  have hos : ∀ {g : Gr}, right g = true → ∀ x ∈ order g, (∀ p ∈ outs g x, -1 ≤ p ∧ (0 ≤ p → p ∈ order g)) := fun hg x hx p hp => ⟨(good_outs hg x p hp).1, fun h0 => live_out hg hx hp h0⟩
  have hat : ∀ x ∈ order g, ∃ i : Nat, at0 (order g) x = i ∧ (order g)[i]? = some x ∧ ∃ y, (order h)[i]? = some y ∧ along (order g) (order h) x = y ∧ y ∈ order h := by
    intro x hx
    obtain ⟨h0, h1, h2⟩ := at0_get hx
    obtain ⟨i, hi⟩ := Int.eq_ofNat_of_zero_le h0
    have hil : i < (order h).length := by omega
    refine ⟨i, hi, by rw [hi] at h2; simpa using h2, _, List.getElem?_eq_getElem hil, ?_, List.getElem_mem hil⟩
    unfold along
    rw [if_pos (hgg.2 x hx).1, hi, Int.toNat_natCast, List.getElem?_eq_getElem hil]
    rfl
  refine ⟨by simp [along], ?_, ?_, ?_, ?_⟩
  · exact along_moved hpos (congrArg Gr.roots he) (hps hg) (hps hh)
  · intro x hx
    by_cases h0 : 0 ≤ x
    · exact .inr (live_root hg hx h0)
    · have := (right_roots hg x hx).1
      exact .inl (by omega)
  · intro x y hx hy hxy
    obtain ⟨i, _, hi1, u, hu, hau, _⟩ := hat x hx
    obtain ⟨j, _, hj1, v, hv, hav, _⟩ := hat y hy
    rw [hau, hav] at hxy
    subst hxy
    have hil := (List.getElem?_eq_some_iff.1 hu).1
    have : i = j := (List.getElem?_inj hil hgh.1).1 (hu.trans hv.symm)
    subst this
    rw [hi1] at hj1
    exact Option.some.inj hj1
  · intro x hx
    obtain ⟨i, _, hi1, y, hy, hay, hym⟩ := hat x hx
    obtain ⟨x0, x1⟩ := hgg.2 x hx
    obtain ⟨y0, y1⟩ := hgh.2 y hym
    have hxl : x.toNat < g.nodes.length := by omega
    have hyl : y.toNat < h.nodes.length := by omega
    refine ⟨x0, by rw [hay]; exact y0, _, List.getElem?_eq_getElem hxl, ?_, ?_⟩
    · have hn := congrArg (fun c => c.nodes[i]?) he
      simp only [Vm.canon, List.getElem?_map, hi1, hy, Option.map_some, Option.some.injEq, canonNd] at hn
      rw [List.getElem?_eq_getElem hxl, List.getElem?_eq_getElem hyl] at hn
      simp only [Option.getD_some, Nd.mk.injEq] at hn
      have ho := along_moved hpos hn.1 (by have := hos hg x hx; simpa [Vm.outs, hxl] using this) (by have := hos hh y hym; simpa [Vm.outs, hyl] using this)
      rw [hay, List.getElem?_eq_getElem hyl, ← ho, hn.2]
    · intro p hp
      have := hos hg x hx p (by simpa [Vm.outs, hxl] using hp)
      by_cases h0 : 0 ≤ p
      · exact .inr (this.2 h0)
      · exact .inl (by omega)
/-! ### Acts -/
theorem iso_rooted {S : Int → Prop} {g h : Gr} {f : Int → Int} (hi : Iso S g h f) (r : Int) {y : Int} (hy : y = -1 ∨ S y) : Iso S (rooted g r y) (rooted h r (f y)) f := by
  refine ⟨hi.neg, ?_, ?_, hi.inj, hi.node⟩
  · simp only [rooted, hi.roots, List.map_set]
  · intro x hx
    rcases List.mem_or_eq_of_mem_set hx with h | rfl
    · exact hi.rin x h
    · exact hy
theorem iso_turned {S : Int → Prop} {g h : Gr} {f : Int → Int} (hi : Iso S g h f) {x : Int} (hx : S x) {n : Nd} (hn : ∀ p ∈ n.ptrs, p = -1 ∨ S p) : Iso S (turned g x n) (turned h (f x) ⟨n.ptrs.map f, n.data⟩) f := by
  refine ⟨hi.neg, hi.roots, hi.rin, hi.inj, ?_⟩
  intro y hy
  obtain ⟨y0, y1, m, h1, h2, h3⟩ := hi.node y hy
  obtain ⟨x0, x1, k, k1, k2, k3⟩ := hi.node x hx
  refine ⟨y0, y1, ?_⟩
  have hxl := (List.getElem?_eq_some_iff.1 k1).1
  have hfl := (List.getElem?_eq_some_iff.1 k2).1
  by_cases hxy : y = x
  · subst hxy
    exact ⟨n, by simp [turned, hxl], by simp [turned, hfl], hn⟩
  · have hne : f y ≠ f x := fun e => hxy (hi.inj y x hy hx e)
    have n1 : x.toNat ≠ y.toNat := by omega
    have n2 : (f x).toNat ≠ (f y).toNat := by omega
    exact ⟨m, by simp [turned, List.getElem?_set, n1, h1], by simp [turned, List.getElem?_set, n2, h2], h3⟩
theorem iso_new {S : Int → Prop} {g h : Gr} {f : Int → Int} (hi : Iso S g h f) (r : Nat) (z p : Int) :
    Iso (fun x => S x ∨ x = g.nodes.length) (newGr g r z p) (newGr h r z p) (fun x => if x = (g.nodes.length : Int) then (h.nodes.length : Int) else f x) := by
  have hS : ∀ x, S x → x < (g.nodes.length : Int) ∧ f x < (h.nodes.length : Int) := fun x hx => by
    obtain ⟨x0, x1, k, k1, k2, k3⟩ := hi.node x hx
    have hxl := (List.getElem?_eq_some_iff.1 k1).1
    have hfl := (List.getElem?_eq_some_iff.1 k2).1
    omega
  have hmap : ∀ ps : List Int, (∀ p ∈ ps, p = -1 ∨ S p) → ps.map (fun x => if x = (g.nodes.length : Int) then (h.nodes.length : Int) else f x) = ps.map f := fun ps hps => by
    refine List.map_congr_left fun q hq => ?_
    have : q ≠ (g.nodes.length : Int) := by
      rcases hps q hq with h | h
      · omega
      · have := hS q h; omega
    rw [if_neg this]
  refine ⟨by rw [if_neg (by omega)]; exact hi.neg, ?_, ?_, ?_, ?_⟩
  · simp only [newGr, List.map_set, if_true]
    rw [hi.roots, hmap _ hi.rin]
  · intro x hx
    rcases List.mem_or_eq_of_mem_set hx with h | rfl
    · exact (hi.rin x h).imp id .inl
    · exact .inr (.inr rfl)
  · intro x y hx hy he
    rcases hx with hx | rfl
    · have := hS x hx
      rw [if_neg (by omega)] at he
      rcases hy with hy | rfl
      · have := hS y hy
        rw [if_neg (by omega)] at he
        exact hi.inj x y hx hy he
      · rw [if_pos rfl] at he; omega
    · rw [if_pos rfl] at he
      rcases hy with hy | rfl
      · have := hS y hy
        rw [if_neg (by omega)] at he
        omega
      · rfl
  · intro x hx
    rcases hx with hx | rfl
    · obtain ⟨x0, x1, k, k1, k2, k3⟩ := hi.node x hx
      have hxl := (List.getElem?_eq_some_iff.1 k1).1
      have hfl := (List.getElem?_eq_some_iff.1 k2).1
      have := hS x hx
      rw [if_neg (by omega)]
      refine ⟨x0, x1, k, ?_, ?_, fun p hp => (k3 p hp).imp id .inl⟩
      · simp only [newGr]; rw [List.getElem?_append_left hxl, k1]
      · simp only [newGr]; rw [List.getElem?_append_left hfl, k2, hmap _ k3]
    · rw [if_pos rfl]
      refine ⟨by omega, by omega, freshNd z p, newGr_at, ?_, fun q hq => ?_⟩
      · have : (freshNd z p).ptrs.map (fun x => if x = (g.nodes.length : Int) then (h.nodes.length : Int) else f x) = (freshNd z p).ptrs := by
          simp only [freshNd, List.map_replicate]
          rw [if_neg (by omega), hi.neg]
        rw [this]
        exact newGr_at
      · simp [freshNd] at hq
        exact .inl hq.2
theorem iso_isRt {S : Int → Prop} {g h : Gr} {f : Int → Int} (hi : Iso S g h f) (s : Int) : isRt h s = isRt g s := by simp [isRt, hi.roots]
theorem iso_rt {S : Int → Prop} {g h : Gr} {f : Int → Int} (hi : Iso S g h f) {s : Int} (hs : isRt g s = true) : rt h s = f (rt g s) ∧ (rt g s = -1 ∨ S (rt g s)) := by
  obtain ⟨h1, h2⟩ := isRt_iff.1 hs
  have hl : s.toNat < g.roots.length := by omega
  have hx : g.roots[s.toNat]? = some g.roots[s.toNat] := List.getElem?_eq_getElem hl
  constructor
  · simp [rt, hi.roots, hx]
  · have := hi.rin _ (List.getElem_mem hl)
    simpa [rt, hx] using this
theorem iso_do {S : Int → Prop} {g h : Gr} {f : Int → Int} (hg : right g = true) (hh : right h = true) (hi : Iso S g h f) (a : Ac) :
    (∃ e, e ≠ 0 ∧ doR g a = (0, noGr, e) ∧ doR h a = (0, noGr, e)) ∨ ∃ u x y S' f', doR g a = (u, x, 0) ∧ doR h a = (u, y, 0) ∧ Iso S' x y f' := by
  have hnames : namesR h a = namesR g a := by simp only [namesR, iso_isRt hi]
  unfold doR
  rw [hg, hh, hnames]
  cases hn : namesR g a
  · exact .inl ⟨1, by omega, rfl, rfl⟩
  · simp only [Bool.and_self, if_true]
    have hrr : a.kind = 1 ∨ a.kind = 6 ∨ a.kind = 7 ∨ a.kind = 2 ∨ a.kind = 4 → isRt g a.r = true := fun h => by
      unfold namesR at hn
      rcases h with h | h | h | h | h <;> rw [h] at hn <;> simp at hn <;> simp [hn]
    have hss : a.kind = 6 ∨ a.kind = 2 ∨ a.kind = 3 ∨ a.kind = 4 ∨ a.kind = 5 → isRt g a.s = true := fun h => by
      unfold namesR at hn
      rcases h with h | h | h | h | h <;> rw [h] at hn <;> simp at hn <;> simp [hn]
    by_cases k1 : a.kind = 1
    · rw [if_pos k1, if_pos k1]
      cases hs : shapeOk a.size a.ptrs
      · exact .inl ⟨1, by omega, rfl, rfl⟩
      · exact .inr ⟨0, _, _, _, _, rfl, rfl, iso_new hi a.r.toNat a.size a.ptrs⟩
    rw [if_neg k1, if_neg k1]
    by_cases k6 : a.kind = 6
    · rw [if_pos k6, if_pos k6]
      obtain ⟨h1, h2⟩ := iso_rt hi (hss (by omega))
      rw [h1]
      exact .inr ⟨0, _, _, _, _, rfl, rfl, iso_rooted hi _ h2⟩
    rw [if_neg k6, if_neg k6]
    by_cases k7 : a.kind = 7
    · rw [if_pos k7, if_pos k7]
      have := iso_rooted hi a.r (y := -1) (.inl rfl)
      rw [hi.neg] at this
      exact .inr ⟨0, _, _, _, _, rfl, rfl, this⟩
    rw [if_neg k7, if_neg k7]
    have hk : a.kind = 2 ∨ a.kind = 3 ∨ a.kind = 4 ∨ a.kind = 5 := by
      unfold namesR at hn
      by_cases q2 : a.kind = 2
      · exact .inl q2
      · by_cases q3 : a.kind = 3
        · exact .inr (.inl q3)
        · by_cases q4 : a.kind = 4
          · exact .inr (.inr (.inl q4))
          · by_cases q5 : a.kind = 5
            · exact .inr (.inr (.inr q5))
            · simp [k1, k6, k7, q2, q3, q4, q5] at hn
    obtain ⟨hrt, hin⟩ := iso_rt hi (hss (by omega))
    unfold slotR
    rw [hrt]
    rcases hin with h0 | hx
    · rw [h0, hi.neg]
      exact .inl ⟨6, by omega, rfl, rfl⟩
    · generalize rt g a.s = x at *
      obtain ⟨x0, x1, n, n1, n2, n3⟩ := hi.node x hx
      simp only [n1, n2, Option.getD_some, List.length_map]
      rw [if_neg (show ¬ x < 0 by omega), if_neg (show ¬ f x < 0 by omega)]
      generalize hmany : (if a.kind = 3 ∨ a.kind = 5 then n.data.length else n.ptrs.length) = many
      by_cases hii : a.i < 0 ∨ (many : Int) ≤ a.i
      · rw [if_pos hii, if_pos hii]
        exact .inl ⟨1, by omega, rfl, rfl⟩
      · rw [if_neg hii, if_neg hii]
        obtain ⟨j, hj⟩ := Int.eq_ofNat_of_zero_le (show 0 ≤ a.i by omega)
        by_cases k2 : a.kind = 2
        · rw [if_pos k2, if_pos k2]
          have hjl : j < n.ptrs.length := by
            rw [if_neg (by omega)] at hmany
            omega
          have hp : n.ptrs[j]? = some n.ptrs[j] := List.getElem?_eq_getElem hjl
          rw [hj, Int.toNat_natCast, List.getElem?_map, hp]
          exact .inr ⟨0, _, _, _, _, rfl, rfl, iso_rooted hi _ (n3 _ (List.getElem_mem hjl))⟩
        rw [if_neg k2, if_neg k2]
        by_cases k3 : a.kind = 3
        · rw [if_pos k3, if_pos k3]
          exact .inr ⟨_, _, _, _, _, rfl, rfl, hi⟩
        rw [if_neg k3, if_neg k3]
        by_cases k4 : a.kind = 4
        · rw [if_pos k4, if_pos k4]
          obtain ⟨h1, h2⟩ := iso_rt hi (hrr (by omega))
          have := iso_turned hi hx (n := ⟨n.ptrs.set a.i.toNat (rt g a.r), n.data⟩) fun p hp => by
            rcases List.mem_or_eq_of_mem_set hp with h | rfl
            · exact n3 p h
            · exact h2
          simp only [List.map_set] at this
          rw [h1]
          exact .inr ⟨0, _, _, _, _, rfl, rfl, this⟩
        · rw [if_neg k4, if_neg k4]
          have := iso_turned hi hx (n := ⟨n.ptrs, n.data.set a.i.toNat a.v⟩) n3
          exact .inr ⟨0, _, _, _, _, rfl, rfl, this⟩
end Vm
