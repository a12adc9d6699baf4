/-
  Words; a graph whose nodes stand elsewhere (Moved): what they compute.
-/
import Derived.Test.YtbmgnmjghhakhaaWh
import Derived.Test.YtbmgnmjghhakhaaGc
namespace Vm
open Go Go.Proofs
set_option maxRecDepth 100000
set_option linter.unusedSimpArgs false
set_option linter.unusedVariables false
def ndW (n : Nd) : Nat := 1 + n.ptrs.length + n.data.length
def wsum (l : List Nd) : Nat := (l.map ndW).sum
def words (g : Gr) : Nat := if right g = true then wsum g.nodes else 0
theorem wsum_succ {l : List Nd} {i : Nat} {x : Nd} (h : l[i]? = some x) : wsum (l.take (i + 1)) = wsum (l.take i) + ndW x := by
  unfold wsum
  rw [List.take_add_one, h, List.map_append, List.sum_append]; simp
theorem wsum_le {l : List Nd} (h : ∀ n ∈ l, n.ptrs.length ≤ 100000 ∧ n.data.length ≤ 100000) (i : Nat) : wsum (l.take i) ≤ l.length * 200001 := by
  have : ∀ {l : List Nd}, (∀ n ∈ l, n.ptrs.length ≤ 100000 ∧ n.data.length ≤ 100000) → wsum l ≤ l.length * 200001 := by
    intro l
    induction l with
    | nil => intro _; simp [wsum]
    | cons x l ih =>
      intro h
      have h1 := ih fun n hn => h n (by simp [hn])
      have h2 := h x (by simp)
      have h3 : ndW x ≤ 200001 := by unfold ndW; omega
      have h4 : wsum (x :: l) = ndW x + wsum l := by simp [wsum]
      rw [h4, List.length_cons, Nat.succ_mul]; omega
  refine Nat.le_trans (this fun n hn => h n (List.mem_of_mem_take hn)) (Nat.mul_le_mul_right _ ?_)
  rw [List.length_take]; omega
theorem Words_vc {g : Gr} (hg : g.sm) : VC Try.prog 29 false [grV g] (vi (words g)) := by
  refine vc_of_wp Try.func29 follows (by kernel_rfl) c29 rfl ?_
  simp [p29]
  refine callW_of (right_vc hg) (by simp) ?_
  cases hr : right g
  · simp [words, hr]
  · obtain ⟨hg1, hg2, hg3⟩ := hg
    simp
    refine wpS_loop (fun t => ∃ i : Nat, i ≤ g.nodes.length ∧ t = [.v (grV g), .m [.sl (g.nodes.map ndV), .sl (g.roots.map vi)], .v (vi 0), .v (.bool false), .v (vi (wsum (g.nodes.take i) : Nat)), .v (vi i), .v (vi g.nodes.length), .no, .no, .v (.sl (g.nodes.map ndV))]) (fun t => match get t 5 with | .v (.int _ n) => g.nodes.length - n.toNat | _ => 0) ?_ ?_
    · exact ⟨0, by simp, by simp [wsum]⟩
    · rintro t ⟨i, hi, rfl⟩
      by_cases h : i < g.nodes.length
      · have hx : g.nodes[i]? = some g.nodes[i] := List.getElem?_eq_getElem h
        obtain ⟨h1, h2⟩ := hg3 _ (List.getElem_mem h)
        have hs := wsum_succ hx
        have hle := wsum_le hg3 (i + 1)
        have hle2 : g.nodes.length * 200001 ≤ 100000 * 200001 := Nat.mul_le_mul_right _ hg1
        simp [h]
        generalize g.nodes[i] = x at *
        have hw := wrap_i ((i : Int) + 1) (by omega) (by omega)
        have hw1 := wrap_i (1 + (x.ptrs.length : Int)) (by omega) (by omega)
        have hw2 := wrap_i (1 + (x.ptrs.length : Int) + x.data.length) (by omega) (by omega)
        unfold ndW at hs
        have hw3 := wrap_i ((wsum (g.nodes.take i) : Int) + (1 + (x.ptrs.length : Int) + x.data.length)) (by omega) (by omega)
        simp [hw, hw1, hw2, hw3]
        exact ⟨⟨i + 1, by omega, by rw [hs]; omega, by simp⟩, by omega⟩
      · have : i = g.nodes.length := by omega
        subst this
        simp [words, hr]
theorem pick9_vc {c n : Int} (hc : Fit c) (hn : 0 < n) : VC Try.prog 30 false [vi c, vi n] (vi (pick c n)) := by
  refine vc_of_wp Try.func30 follows (by kernel_rfl) c30 rfl ?_
  obtain ⟨h1, h2⟩ := hc
  by_cases h : c < 0
  · simp [p30, h]
    simp (disch := omega) only [wrap_i]
    refine ⟨by omega, ?_⟩
    unfold pick
    rw [if_pos h, Int.tmod_eq_emod_of_nonneg (by omega)]
  · simp [p30, h]
    refine ⟨by omega, ?_⟩
    unfold pick
    rw [if_neg h, Int.tmod_eq_emod_of_nonneg (by omega)]
@[simp] theorem take_map_all {α β : Type} {f : α → β} {l : List α} : (l.map f).take l.length = l.map f := List.take_of_length_le (by simp)
theorem snoc_map {α : Type} {f : α → V} {l : List α} {i : Nat} {x : α} {y : V} (hx : l[i]? = some x) (hy : f x = y) : (l.map f).take i ++ [y] = (l.map f).take (i + 1) := by
  rw [List.take_add_one, List.getElem?_map, hx, Option.map_some, hy]; rfl
/-- where a pointer is to, when all nodes stand elsewhere -/
def mv (b n a : Int) (p : Int) : Int := if p < 0 then -1 else a + pick (p + pick b n) n
theorem moved9_vc {ps : List Int} {b n a : Int} (hp : ∀ p ∈ ps, -1 ≤ p ∧ p < n) (hl : ps.length ≤ 100000) (hb : Fit b) (hn : n ≤ 100000) (ha : 0 ≤ a ∧ a ≤ 1) :
    VC Try.prog 36 false [.sl (ps.map vi), vi b, vi n, vi a] (.sl ((ps.map (mv b n a)).map vi)) := by
  refine vc_of_wp Try.func36 follows (by kernel_rfl) c36 rfl ?_
  simp [p36]
  refine wpS_loop (fun t => ∃ i : Nat, i ≤ ps.length ∧ t = [.v (.sl (ps.map vi)), .v (vi b), .v (vi n), .v (vi a), .v (.sl []), .v (.sl ((ps.map (vi ∘ mv b n a)).take i)), .v (vi i)]) (fun t => match get t 6 with | .v (.int _ n) => ps.length - n.toNat | _ => 0) ?_ ?_
  · exact ⟨0, by simp, by simp⟩
  · rintro t ⟨i, hi, rfl⟩
    by_cases h : i < ps.length
    · have hx : ps[i]? = some ps[i] := List.getElem?_eq_getElem h
      obtain ⟨hx0, hx1⟩ := hp _ (List.getElem_mem h)
      have hw := wrap_i ((i : Int) + 1) (by omega) (by omega)
      have hstep : (ps.take (i + 1)).map (mv b n a) = (ps.take i).map (mv b n a) ++ [mv b n a ps[i]] := by
        rw [List.take_add_one, hx, List.map_append]; rfl
      by_cases h0 : ps[i] < 0
      · have hm : mv b n a ps[i] = -1 := if_pos h0
        simp [h, h0, hw]
        exact ⟨by simp [lim]; omega, ⟨i + 1, by omega, snoc_map hx (by simp [hm]), by simp⟩, by omega⟩
      · have hn0 : 0 < n := by omega
        have hm : mv b n a ps[i] = a + pick (ps[i] + pick b n) n := if_neg h0
        have hb1 := pick_lt (c := b) hn0
        have hb2 := pick_lt (c := ps[i] + pick b n) hn0
        simp [h, h0]
        refine callW_of (pick9_vc hb hn0) (by simp) ?_
        have hw1 := wrap_i (ps[i] + pick b n) (by omega) (by omega)
        simp [h, hw1]
        refine callW_of (pick9_vc (c := ps[i] + pick b n) ⟨by omega, by omega⟩ hn0) (by simp) ?_
        have hw2 := wrap_i (a + pick (ps[i] + pick b n) n) (by omega) (by omega)
        simp [hw, hw2]
        exact ⟨by simp [lim]; omega, ⟨i + 1, by omega, snoc_map hx (by simp [hm]), by simp⟩, by omega⟩
    · have : i = ps.length := by omega
      subst this
      simp
def mvNd (b n a : Int) (x : Nd) : Nd := ⟨x.ptrs.map (mv b n a), x.data⟩
/-- the node that stands at place i -/
def mvAt (g : Gr) (b : Int) (a : Int) (i : Nat) : Nd := mvNd b g.nodes.length a ((g.nodes[(pick ((i : Int) + g.nodes.length - pick b g.nodes.length) g.nodes.length).toNat]?).getD default)
def Moved (g : Gr) (b : Int) (more : Bool) : Gr :=
  ⟨(if more then [⟨[0], [7]⟩] else []) ++ (List.range g.nodes.length).map (mvAt g b (if more then 1 else 0)), g.roots.map (mv b g.nodes.length (if more then 1 else 0))⟩
theorem Moved_vc {g : Gr} {b : Int} {more : Bool} (hg : g.sm) (hr : right g = true) (hb : Fit b) : VC Try.prog 17 false [grV g, vi b, .bool more] (grV (Moved g b more)) := by
  refine vc_of_wp Try.func17 follows (by kernel_rfl) c17 rfl ?_
  obtain ⟨hg1, hg2, hg3⟩ := hg
  have hl1 : 1 ≤ lim := by simp [lim]
  simp [p17]
  generalize hnn : (if more then [(⟨[0], [7]⟩ : Nd)] else []) = nn
  generalize ha : (if more then (1 : Int) else 0) = a
  have hnl : nn.length ≤ 1 := by subst hnn; cases more <;> simp
  have hab : 0 ≤ a ∧ a ≤ 1 := by subst ha; cases more <;> simp
  have hM : Moved g b more = ⟨nn ++ (List.range g.nodes.length).map (mvAt g b a), g.roots.map (mv b g.nodes.length a)⟩ := by
    unfold Moved; rw [← hnn, ← ha]
  have hlen : ∀ (l : List Nd), (l.map (mvNd b g.nodes.length a)).length = l.length := fun l => by simp
  cases more
  all_goals
    simp only [Bool.false_eq_true, if_false, if_true] at hnn ha
    simp [hl1]
    refine wpS_loop (fun t => ∃ i x2 x8, i ≤ g.nodes.length ∧ t = [.v (grV g), .v (vi b), x2, .m [.sl (g.nodes.map ndV), .sl (g.roots.map vi)], .m [.sl [], .sl []], .v (vi g.nodes.length), .v (vi a),
      .m [.sl (nn.map ndV ++ ((List.range g.nodes.length).map (ndV ∘ mvAt g b a)).take i), .sl []], x8, .v (vi (i : Nat))]) (fun t => match get t 9 with | .v (.int _ n) => g.nodes.length - n.toNat | _ => 0) ?_ ?_
    · exact ⟨0, _, _, by simp, by subst hnn ha; simp [ndV]; exact ⟨rfl, rfl⟩⟩
    · rintro t ⟨i, x2, x8, hi, rfl⟩
      by_cases h : i < g.nodes.length
      · have hw := wrap_i ((i : Int) + 1) (by omega) (by omega)
        have hn0 : (0 : Int) < g.nodes.length := by omega
        have hb1 := pick_lt (c := b) hn0
        simp [h]
        refine callW_of (pick9_vc hb hn0) (by simp) ?_
        have hw1 := wrap_i ((i : Int) + g.nodes.length) (by omega) (by omega)
        have hw2 := wrap_i ((i : Int) + g.nodes.length - pick b g.nodes.length) (by omega) (by omega)
        simp [hw1, hw2]
        refine callW_of (pick9_vc (c := (i : Int) + g.nodes.length - pick b g.nodes.length) ⟨by omega, by omega⟩ hn0) (by simp) ?_
        have hb2 := pick_lt (c := (i : Int) + g.nodes.length - pick b g.nodes.length) hn0
        obtain ⟨k, hk⟩ := Int.eq_ofNat_of_zero_le hb2.1
        have hkl : k < g.nodes.length := by omega
        obtain ⟨s1, s2⟩ := hg3 _ (List.getElem_mem hkl)
        have hat : mvAt g b a i = mvNd b g.nodes.length a g.nodes[k] := by
          unfold mvAt; rw [hk]; simp [hkl]
        simp [hk, hkl]
        refine callW_of (moved9_vc (fun p hp => right_ptrs hr _ (List.getElem_mem hkl) p hp) s1 hb (by omega) hab) (by simp) ?_
        simp [hw]
        have hx : (List.range g.nodes.length)[i]? = some i := List.getElem?_range h
        exact ⟨by simp [lim]; omega, ⟨i + 1, by omega, snoc_map hx (by simp [hat, mvNd, ndV]), by simp⟩, by omega⟩
      · have : i = g.nodes.length := by omega
        subst this
        simp
        refine callW_of (moved9_vc (fun p hp => right_roots hr p hp) hg2 hb (by omega) hab) (by simp) ?_
        simp [hM, grV]
        rw [List.take_of_length_le (by simp)]
end Vm
/-
  Graphs whose nodes stand elsewhere: their Canons are the same; the Canon of a Canon.
-/
namespace Vm
open Go Go.Proofs
set_option linter.unusedSimpArgs false
set_option linter.unusedVariables false
set_option maxRecDepth 100000

theorem note_map {f : Int → Int} : ∀ {o l : List Int}, (∀ x ∈ noteL l o, ∀ y ∈ noteL l o, f x = f y → x = y) → (∀ x ∈ noteL l o, 0 ≤ f x) → (∀ x ∈ o, x < 0 → f x < 0) → noteL (l.map f) (o.map f) = (noteL l o).map f
  | [], l, _, _, _ => rfl
  | y :: o, l, hi, hp, hn => by
    simp only [List.map_cons, noteL]
    simp only [noteL] at hi hp
    by_cases hc : 0 ≤ y ∧ y ∉ l
    · rw [if_pos hc] at hi hp ⊢
      have hy : y ∈ noteL (l ++ [y]) o := noteL_mem.2 (.inl (by simp))
      have hc' : 0 ≤ f y ∧ f y ∉ l.map f := ⟨hp y hy, fun hm => by
        obtain ⟨z, hz, he⟩ := List.mem_map.1 hm
        have := hi z (noteL_mem.2 (.inl (by simp [hz]))) y hy he
        subst this
        exact hc.2 hz⟩
      rw [if_pos hc', show l.map f ++ [f y] = (l ++ [y]).map f by simp]
      exact note_map hi hp fun x hx => hn x (by simp [hx])
    · rw [if_neg hc] at hi hp ⊢
      have hc' : ¬ (0 ≤ f y ∧ f y ∉ l.map f) := by
        rintro ⟨h1, h2⟩
        by_cases h0 : 0 ≤ y
        · exact h2 (List.mem_map.2 ⟨y, by by_cases hy : y ∈ l; exact hy; exact (hc ⟨h0, hy⟩).elim, rfl⟩)
        · have := hn y (by simp) (by omega); omega
      rw [if_neg hc']
      exact note_map hi hp fun x hx => hn x (by simp [hx])
theorem orderL_pre {g : Gr} : ∀ {F i : Nat} {l : List Int}, ∃ t, orderL g F i l = l ++ t
  | 0, i, l => ⟨[], by simp [orderL]⟩
  | F + 1, i, l => by
    simp only [orderL]
    cases l[i]? with
    | none => exact ⟨[], by simp⟩
    | some x =>
      obtain ⟨t, ht⟩ := noteL_pre ((g.nodes[x.toNat]?).getD default).ptrs (acc := l)
      obtain ⟨t', ht'⟩ := orderL_pre (g := g) (F := F) (i := i + 1) (l := noteL l ((g.nodes[x.toNat]?).getD default).ptrs)
      refine ⟨t ++ t', ?_⟩
      show orderL g F (i + 1) (noteL l ((g.nodes[x.toNat]?).getD default).ptrs) = _
      rw [ht', ht, List.append_assoc]
theorem orderL_more {g : Gr} (hr : right g = true) : ∀ {F i : Nat} {l : List Int} (k : Nat), Good g.nodes.length l → g.nodes.length < F + i → orderL g (F + k) i l = orderL g F i l
  | 0, i, l, k, hg, hf => by
    have := hg.len
    cases k with
    | zero => rfl
    | succ k =>
      simp only [Nat.zero_add, orderL]
      rw [List.getElem?_eq_none (by omega)]
  | F + 1, i, l, k, hg, hf => by
    rw [show F + 1 + k = (F + k) + 1 by omega]
    simp only [orderL]
    cases hx : l[i]? with
    | none => rfl
    | some x =>
      exact orderL_more hr k (noteL_good hg fun y hy => (good_outs hr x y hy).2) (by omega)
theorem orderL_map {g h : Gr} {f : Int → Int} (hnode : ∀ x ∈ order g, (h.nodes[(f x).toNat]?).map (·.ptrs) = some ((outs g x).map f)) (hneg : ∀ x ∈ order g, ∀ y ∈ outs g x, y < 0 → f y < 0) (hinj : ∀ x ∈ order g, ∀ y ∈ order g, f x = f y → x = y) (hpos : ∀ x ∈ order g, 0 ≤ f x) :
    ∀ {F i : Nat} {l : List Int}, (∀ x ∈ orderL g F i l, x ∈ order g) → orderL h F i (l.map f) = (orderL g F i l).map f
  | 0, i, l, _ => rfl
  | F + 1, i, l, hm => by
    simp only [orderL, List.getElem?_map]
    simp only [orderL] at hm
    cases hx : l[i]? with
    | none => rfl
    | some x =>
      rw [hx] at hm
      simp only [Option.map_some]
      simp only at hm
      have hxo : x ∈ order g := by
        obtain ⟨t, ht⟩ := noteL_pre ((g.nodes[x.toNat]?).getD default).ptrs (acc := l)
        obtain ⟨t', ht'⟩ := orderL_pre (g := g) (F := F) (i := i + 1) (l := noteL l ((g.nodes[x.toNat]?).getD default).ptrs)
        refine hm x ?_
        rw [ht', ht]
        simp [List.mem_of_getElem? hx]
      have hn := hnode x hxo
      cases hh : h.nodes[(f x).toNat]? with
      | none => rw [hh] at hn; cases hn
      | some nd =>
        rw [hh] at hn
        simp only [Option.map_some, Option.some.injEq] at hn
        simp only [Option.getD_some, hn]
        have hsub : ∀ y ∈ noteL l (outs g x), y ∈ order g := fun y hy => by
          obtain ⟨t', ht'⟩ := orderL_pre (g := g) (F := F) (i := i + 1) (l := noteL l (outs g x))
          refine hm y ?_
          show y ∈ orderL g F (i + 1) (noteL l (outs g x))
          rw [ht']; simp [hy]
        rw [note_map (fun a ha b hb => hinj a (hsub a ha) b (hsub b hb)) (fun a ha => hpos a (hsub a ha)) (hneg x hxo)]
        exact orderL_map hnode hneg hinj hpos hm
/-- what a root, or a live node, points to is live -/
theorem live_root {g : Gr} (hr : right g = true) {x : Int} (hx : x ∈ g.roots) (h0 : 0 ≤ x) : x ∈ order g := by
  rw [order_whole hr, noteL_mem]
  exact .inr ⟨by simp [hx], h0⟩
theorem live_out {g : Gr} (hr : right g = true) {x y : Int} (hx : x ∈ order g) (hy : y ∈ outs g x) (h0 : 0 ≤ y) : y ∈ order g := by
  rw [order_whole hr, noteL_mem]
  exact .inr ⟨List.mem_append_right _ (List.mem_flatMap.2 ⟨x, hx, hy⟩), h0⟩
theorem at0_map {L : List Int} {f : Int → Int} {p : Int} (hinj : ∀ x ∈ L, f x = f p → x = p) : at0 (L.map f) (f p) = at0 L p := by
  unfold at0
  rw [List.findIdx?_map]
  have : L.findIdx? ((fun x => x == f p) ∘ f) = L.findIdx? (fun x => x == p) := by
    induction L with
    | nil => rfl
    | cons a L ih =>
      simp only [List.findIdx?_cons, Function.comp]
      have h1 : (f a == f p) = (a == p) := by
        rw [Bool.eq_iff_iff]
        simp only [beq_iff_eq]
        exact ⟨hinj a (by simp), fun e => by rw [e]⟩
      have h2 := ih fun x hx => hinj x (by simp [hx])
      simp only [h1]
      rw [h2]
  rw [this]
theorem canon_iso {g h : Gr} (hg : right g = true) (hh : right h = true) (f : Int → Int) (hf : f (-1) = -1) (hinj : ∀ x ∈ order g, ∀ y ∈ order g, f x = f y → x = y) (hpos : ∀ x ∈ order g, 0 ≤ f x)
    (hroots : h.roots = g.roots.map f) (hnodes : ∀ x ∈ order g, h.nodes[(f x).toNat]? = some ⟨(outs g x).map f, ((g.nodes[x.toNat]?).getD default).data⟩) :
    order h = (order g).map f ∧ canon h = canon g := by
  have hm1 : ∀ x : Int, -1 ≤ x → x < 0 → f x = x := fun x h1 h2 => by
    have : x = -1 := by omega
    subst this; exact hf
  have hnode' : ∀ x ∈ order g, (h.nodes[(f x).toNat]?).map (·.ptrs) = some ((outs g x).map f) := fun x hx => by rw [hnodes x hx]; rfl
  have ho : order h = (order g).map f := by
    have hgood0 : Good g.nodes.length (noteL [] g.roots) := noteL_good ⟨by simp, by simp⟩ fun x hx => (right_roots hg x hx).2
    have hgood1 : Good h.nodes.length (noteL [] h.roots) := noteL_good ⟨by simp, by simp⟩ fun x hx => (right_roots hh x hx).2
    have h1 := orderL_more hg (F := g.nodes.length + 1) (i := 0) (h.nodes.length) hgood0 (by omega)
    have h2 := orderL_more hh (F := h.nodes.length + 1) (i := 0) (g.nodes.length) hgood1 (by omega)
    have h3 := orderL_map (f := f) hnode' (fun x hx y hy h0 => by rw [hm1 y (good_outs hg x y hy).1 h0]; exact h0) hinj hpos (F := g.nodes.length + 1 + h.nodes.length) (i := 0) (l := noteL [] g.roots) (fun x hx => by rw [h1] at hx; exact hx)
    have h4 : noteL [] h.roots = (noteL [] g.roots).map f := by
      rw [hroots]
      refine note_map (l := []) (fun x hx y hy => ?_) (fun x hx => ?_) (fun x hx h0 => ?_)
      · rw [noteL_mem] at hx hy
        simp at hx hy
        exact hinj x (live_root hg hx.1 hx.2) y (live_root hg hy.1 hy.2)
      · rw [noteL_mem] at hx
        simp at hx
        exact hpos x (live_root hg hx.1 hx.2)
      · rw [hm1 x (right_roots hg x hx).1 h0]; exact h0
    unfold order
    rw [← h2, ← h1, h4, ← h3]
    congr 1; omega
  refine ⟨ho, ?_⟩
  have hmoved : ∀ ps : List Int, (∀ p ∈ ps, -1 ≤ p ∧ (0 ≤ p → p ∈ order g)) → movedL (order h) (ps.map f) = movedL (order g) ps := by
    intro ps hps
    unfold movedL
    rw [List.map_map]
    refine List.map_congr_left fun p hp => ?_
    obtain ⟨h1, h2⟩ := hps p hp
    simp only [Function.comp]
    by_cases h0 : 0 ≤ p
    · rw [if_pos (hpos p (h2 h0)), if_pos h0, ho]
      exact at0_map fun x hx he => hinj x hx p (h2 h0) he
    · rw [hm1 p h1 (by omega)]
      rw [if_neg h0, if_neg h0]
  unfold canon
  congr 1
  · rw [ho, List.map_map]
    refine List.map_congr_left fun x hx => ?_
    simp only [Function.comp, canonNd, hnodes x hx, Option.getD_some]
    congr 1
    rw [← ho]
    exact hmoved _ fun p hp => ⟨(good_outs hg x p hp).1, fun h0 => live_out hg hx hp h0⟩
  · rw [hroots]
    exact hmoved _ fun p hp => ⟨(right_roots hg p hp).1, fun h0 => live_root hg hp h0⟩

/-! ### The Canon of a Canon -/
theorem at0_get {L : List Int} {x : Int} (h : x ∈ L) : 0 ≤ at0 L x ∧ at0 L x < L.length ∧ L[(at0 L x).toNat]? = some x := by
  unfold at0
  cases hf : L.findIdx? (· == x) with
  | none => exact (findIdx_none.1 hf h).elim
  | some i =>
    obtain ⟨h1, h2, _⟩ := List.findIdx?_eq_some_iff_getElem.1 hf
    simp only [beq_iff_eq] at h2
    refine ⟨by simp, by simpa using h1, ?_⟩
    simp [h1, h2]
def toCanon (g : Gr) (x : Int) : Int := if 0 ≤ x then at0 (order g) x else x
theorem toCanon_inj {g : Gr} (hr : right g = true) : ∀ x ∈ order g, ∀ y ∈ order g, toCanon g x = toCanon g y → x = y := by
  intro x hx y hy he
  obtain ⟨x0, _⟩ := (order_good hr).2 x hx
  obtain ⟨y0, _⟩ := (order_good hr).2 y hy
  unfold toCanon at he
  rw [if_pos x0, if_pos y0] at he
  have h1 := (at0_get hx).2.2
  have h2 := (at0_get hy).2.2
  rw [he, h2] at h1
  cases h1; rfl
theorem right_canon {g : Gr} (hr : right g = true) : right (canon g) = true := by
  have hgood := order_good hr
  have hin : ∀ ps : List Int, (∀ p ∈ ps, -1 ≤ p ∧ (0 ≤ p → p ∈ order g)) → ∀ q ∈ movedL (order g) ps, inR (canon g).nodes.length q = true := by
    intro ps hps q hq
    obtain ⟨p, hp, rfl⟩ := List.mem_map.1 hq
    obtain ⟨h1, h2⟩ := hps p hp
    have hl : (canon g).nodes.length = (order g).length := by simp [canon]
    rw [hl]
    simp only [inR, decide_eq_true_eq]
    split
    · rename_i h0
      have := at0_get (h2 h0)
      omega
    · omega
  simp only [right, Bool.and_eq_true, List.all_eq_true, decide_eq_true_eq]
  have hr' := hr
  simp only [right, Bool.and_eq_true, List.all_eq_true, decide_eq_true_eq] at hr'
  refine ⟨⟨by simpa [canon, movedL] using hr'.1.1, fun nd hnd => ?_⟩, hin _ fun p hp => ⟨(right_roots hr p hp).1, fun h0 => live_root hr hp h0⟩⟩
  simp only [canon, List.mem_map] at hnd
  obtain ⟨x, hx, rfl⟩ := hnd
  have hx' := hgood.2 x hx
  have hlt : x.toNat < g.nodes.length := by omega
  have h3 := hr'.1.2 _ (List.getElem_mem hlt)
  simp only [nodeOk, Bool.and_eq_true, decide_eq_true_eq, List.all_eq_true] at h3 ⊢
  refine ⟨by simpa [canonNd, hlt, movedL] using h3.1, ?_⟩
  exact hin _ fun p hp => ⟨(good_outs hr x p hp).1, fun h0 => live_out hr hx hp h0⟩
theorem canon_canon {g : Gr} (hr : right g = true) : canon (canon g) = canon g := by
  refine (canon_iso hr (right_canon hr) (toCanon g) (by simp [toCanon]) (toCanon_inj hr) (fun x hx => ?_) rfl (fun x hx => ?_)).2
  · unfold toCanon
    rw [if_pos ((order_good hr).2 x hx).1]
    exact (at0_get hx).1
  · have h0 := ((order_good hr).2 x hx).1
    have : (toCanon g x) = at0 (order g) x := if_pos h0
    rw [this]
    simp only [canon, List.getElem?_map, (at0_get hx).2.2, Option.map_some]
    rfl
/-! ### Nodes that stand elsewhere -/
theorem pick_pos {c n : Int} (h : 0 ≤ c) : pick c n = c % n := by
  unfold pick; rw [if_neg (by omega)]
theorem mv_pos {b n a p : Int} (h0 : 0 ≤ p) : mv b n a p = a + pick (p + pick b n) n := if_neg (by omega)
theorem right_Moved {g : Gr} (hr : right g = true) (b : Int) (more : Bool) : right (Moved g b more) = true := by
  have hr' := hr
  simp only [right, Bool.and_eq_true, List.all_eq_true, decide_eq_true_eq] at hr'
  obtain ⟨⟨r1, r2⟩, r3⟩ := hr'
  generalize ha : (if more then (1 : Int) else 0) = a
  have hlen : ((Moved g b more).nodes.length : Int) = a + g.nodes.length := by
    subst ha; cases more <;> simp [Moved]; omega
  have ha2 : 0 ≤ a ∧ a ≤ 1 := by subst ha; cases more <;> simp
  have hin : ∀ ps : List Int, (∀ p ∈ ps, -1 ≤ p ∧ p < g.nodes.length) → ∀ q ∈ ps.map (mv b g.nodes.length a), inR (Moved g b more).nodes.length q = true := by
    intro ps hps q hq
    obtain ⟨p, hp, rfl⟩ := List.mem_map.1 hq
    obtain ⟨h1, h2⟩ := hps p hp
    simp only [inR, decide_eq_true_eq, hlen]
    unfold mv
    split
    · omega
    · have := pick_lt (c := p + pick b g.nodes.length) (n := g.nodes.length) (by omega)
      omega
  simp only [right, Bool.and_eq_true, List.all_eq_true, decide_eq_true_eq]
  refine ⟨⟨by simpa [Moved] using r1, fun nd hnd => ?_⟩, ?_⟩
  · simp only [Moved, List.mem_append, List.mem_map] at hnd
    rcases hnd with hnd | ⟨i, hi, rfl⟩
    · cases more
      · simp at hnd
      · simp at hnd
        subst hnd
        simp [nodeOk, inR]
        have := hlen
        simp at ha
        omega
    · rw [ha]
      unfold mvAt mvNd
      generalize hk : (pick ((i : Int) + g.nodes.length - pick b g.nodes.length) g.nodes.length).toNat = k
      simp only [nodeOk, Bool.and_eq_true, decide_eq_true_eq, List.all_eq_true]
      have hi' : i < g.nodes.length := by simpa using hi
      have := pick_lt (c := (i : Int) + g.nodes.length - pick b g.nodes.length) (n := g.nodes.length) (by omega)
      have hkl : k < g.nodes.length := by omega
      simp only [List.getElem?_eq_getElem hkl, Option.getD_some]
      have h3 := r2 _ (List.getElem_mem hkl)
      simp only [nodeOk, Bool.and_eq_true, decide_eq_true_eq, List.all_eq_true] at h3
      exact ⟨by simpa using h3.1, hin _ fun p hp => right_ptrs hr _ (List.getElem_mem hkl) p hp⟩
  · have : (Moved g b more).roots = g.roots.map (mv b g.nodes.length a) := by unfold Moved; rw [ha]
    rw [this]
    exact hin _ fun p hp => right_roots hr p hp
theorem canon_Moved {g : Gr} (hr : right g = true) (b : Int) (more : Bool) : canon (Moved g b more) = canon g := by
  generalize ha : (if more then (1 : Int) else 0) = a
  have ha2 : 0 ≤ a ∧ a ≤ 1 := by subst ha; cases more <;> simp
  have hgood := order_good hr
  generalize hn : (g.nodes.length : Int) = n
  have hc : 0 < n → 0 ≤ pick b n ∧ pick b n < n := fun h => pick_lt h
  have hmv : ∀ x ∈ order g, mv b n a x = a + (x + pick b n) % n ∧ 0 ≤ x ∧ x < n := fun x hx => by
    obtain ⟨h1, h2⟩ := hgood.2 x hx
    have := hc (by omega)
    rw [mv_pos h1, pick_pos (by omega)]
    exact ⟨rfl, h1, by omega⟩
  refine (canon_iso hr (right_Moved hr b more) (mv b n a) (by simp [mv]) (fun x hx y hy he => ?_) (fun x hx => ?_) ?_ fun x hx => ?_).2
  · obtain ⟨e1, x0, x1⟩ := hmv x hx
    obtain ⟨e2, y0, y1⟩ := hmv y hy
    rw [e1, e2] at he
    have h1 : (x + pick b n) % n = (y + pick b n) % n := by omega
    have h2 := Int.emod_emod_of_dvd (x + pick b n) (Int.dvd_refl n)
    have h3 : (x + pick b n - pick b n) % n = (y + pick b n - pick b n) % n := by
      rw [Int.sub_emod, h1, ← Int.sub_emod]
    rw [Int.add_sub_cancel, Int.add_sub_cancel, Int.emod_eq_of_lt x0 x1, Int.emod_eq_of_lt y0 y1] at h3
    exact h3
  · obtain ⟨e1, x0, x1⟩ := hmv x hx
    rw [e1]
    have := Int.emod_nonneg (x + pick b n) (show n ≠ 0 by omega)
    omega
  · simp only [Moved]
    rw [ha, hn]
  · obtain ⟨e1, x0, x1⟩ := hmv x hx
    have hj0 := Int.emod_nonneg (x + pick b n) (show n ≠ 0 by omega)
    have hj1 := Int.emod_lt_of_pos (x + pick b n) (show 0 < n by omega)
    have hcb := hc (by omega)
    obtain ⟨j, hj⟩ := Int.eq_ofNat_of_zero_le hj0
    have hidx : ∀ nn : List Nd, (nn.length : Int) = a → (nn ++ (List.range g.nodes.length).map (mvAt g b a))[(mv b n a x).toNat]? = some (mvAt g b a j) := by
      intro nn hnn
      rw [e1, hj, ← hnn, show ((nn.length : Int) + (j : Int)).toNat = nn.length + j by omega, List.getElem?_append_right (by omega), Nat.add_sub_cancel_left, List.getElem?_map, List.getElem?_range (by omega)]
      rfl
    have hnn : (((if more then [(⟨[0], [7]⟩ : Nd)] else [])).length : Int) = a := by subst ha; cases more <;> simp
    have h5 := hidx _ hnn
    have hback : pick ((j : Int) + n - pick b n) n = x := by
      rw [pick_pos (by omega), ← hj, show (x + pick b n) % n + n - pick b n = (x + pick b n) % n - pick b n + n by omega, Int.add_emod_right, Int.sub_emod, Int.emod_emod, ← Int.sub_emod, Int.add_sub_cancel, Int.emod_eq_of_lt x0 x1]
    simp only [Moved]
    rw [ha, h5]
    unfold mvAt
    rw [hn, hback]
    rfl
end Vm
