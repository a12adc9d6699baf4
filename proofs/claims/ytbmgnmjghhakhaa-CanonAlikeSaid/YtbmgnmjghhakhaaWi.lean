/-
  Words; a graph whose nodes stand elsewhere (Moved): what they compute.
-/
import Derived.Test.YtbmgnmjghhakhaaWh
import Derived.Test.YtbmgnmjghhakhaaGc
namespace Vm
open Go Go.Proofs
set_option maxRecDepth 100000
set_option linter.unusedSimpArgs false
set_option linter.unusedVariables false
def ndW (n : Nd) : Nat := 1 + n.ptrs.length + n.data.length
def wsum (l : List Nd) : Nat := (l.map ndW).sum
def words (g : Gr) : Nat := if right g = true then wsum g.nodes else 0
theorem wsum_succ {l : List Nd} {i : Nat} {x : Nd} (h : l[i]? = some x) : wsum (l.take (i + 1)) = wsum (l.take i) + ndW x := by
  unfold wsum
  rw [List.take_add_one, h, List.map_append, List.sum_append]; simp
theorem wsum_le {l : List Nd} (h : ∀ n ∈ l, n.ptrs.length ≤ 100000 ∧ n.data.length ≤ 100000) (i : Nat) : wsum (l.take i) ≤ l.length * 200001 := by
  have : ∀ {l : List Nd}, (∀ n ∈ l, n.ptrs.length ≤ 100000 ∧ n.data.length ≤ 100000) → wsum l ≤ l.length * 200001 := by
    intro l
    induction l with
    | nil => intro _; simp [wsum]
    | cons x l ih =>
      intro h
      have h1 := ih fun n hn => h n (by simp [hn])
      have h2 := h x (by simp)
      have h3 : ndW x ≤ 200001 := by unfold ndW; omega
      have h4 : wsum (x :: l) = ndW x + wsum l := by simp [wsum]
      rw [h4, List.length_cons, Nat.succ_mul]; omega
  refine Nat.le_trans (this fun n hn => h n (List.mem_of_mem_take hn)) (Nat.mul_le_mul_right _ ?_)
  rw [List.length_take]; omega
theorem Words_vc {g : Gr} (hg : g.sm) : VC Try.prog 29 false [grV g] (vi (words g)) := by
  refine vc_of_wp Try.func29 follows (by kernel_rfl) c29 rfl ?_
  simp [p29]
  refine callW_of (right_vc hg) (by simp) ?_
  cases hr : right g
  · simp [words, hr]
  · obtain ⟨hg1, hg2, hg3⟩ := hg
    simp
    refine wpS_loop (fun t => ∃ i : Nat, i ≤ g.nodes.length ∧ t = [.v (grV g), .m [.sl (g.nodes.map ndV), .sl (g.roots.map vi)], .v (vi 0), .v (.bool false), .v (vi (wsum (g.nodes.take i) : Nat)), .v (vi i), .v (vi g.nodes.length), .no, .no, .v (.sl (g.nodes.map ndV))]) (fun t => match get t 5 with | .v (.int _ n) => g.nodes.length - n.toNat | _ => 0) ?_ ?_
    · exact ⟨0, by simp, by simp [wsum]⟩
    · rintro t ⟨i, hi, rfl⟩
      by_cases h : i < g.nodes.length
      · have hx : g.nodes[i]? = some g.nodes[i] := List.getElem?_eq_getElem h
        obtain ⟨h1, h2⟩ := hg3 _ (List.getElem_mem h)
        have hs := wsum_succ hx
        have hle := wsum_le hg3 (i + 1)
        have hle2 : g.nodes.length * 200001 ≤ 100000 * 200001 := Nat.mul_le_mul_right _ hg1
        simp [h]
        generalize g.nodes[i] = x at *
        have hw := wrap_i ((i : Int) + 1) (by omega) (by omega)
        have hw1 := wrap_i (1 + (x.ptrs.length : Int)) (by omega) (by omega)
        have hw2 := wrap_i (1 + (x.ptrs.length : Int) + x.data.length) (by omega) (by omega)
        unfold ndW at hs
        have hw3 := wrap_i ((wsum (g.nodes.take i) : Int) + (1 + (x.ptrs.length : Int) + x.data.length)) (by omega) (by omega)
        simp [hw, hw1, hw2, hw3]
        exact ⟨⟨i + 1, by omega, by rw [hs]; omega, by simp⟩, by omega⟩
      · have : i = g.nodes.length := by omega
        subst this
        simp [words, hr]
theorem pick9_vc {c n : Int} (hc : Fit c) (hn : 0 < n) : VC Try.prog 30 false [vi c, vi n] (vi (pick c n)) := by
  refine vc_of_wp Try.func30 follows (by kernel_rfl) c30 rfl ?_
  obtain ⟨h1, h2⟩ := hc
  by_cases h : c < 0
  · simp [p30, h]
    simp (disch := omega) only [wrap_i]
    refine ⟨by omega, ?_⟩
    unfold pick
    rw [if_pos h, Int.tmod_eq_emod_of_nonneg (by omega)]
  · simp [p30, h]
    refine ⟨by omega, ?_⟩
    unfold pick
    rw [if_neg h, Int.tmod_eq_emod_of_nonneg (by omega)]
@[simp] theorem take_map_all {α β : Type} {f : α → β} {l : List α} : (l.map f).take l.length = l.map f := List.take_of_length_le (by simp)
theorem snoc_map {α : Type} {f : α → V} {l : List α} {i : Nat} {x : α} {y : V} (hx : l[i]? = some x) (hy : f x = y) : (l.map f).take i ++ [y] = (l.map f).take (i + 1) := by
  rw [List.take_add_one, List.getElem?_map, hx, Option.map_some, hy]; rfl
/-- where a pointer is to, when all nodes stand elsewhere -/
def mv (b n a : Int) (p : Int) : Int := if p < 0 then -1 else a + pick (p + pick b n) n
theorem moved9_vc {ps : List Int} {b n a : Int} (hp : ∀ p ∈ ps, -1 ≤ p ∧ p < n) (hl : ps.length ≤ 100000) (hb : Fit b) (hn : n ≤ 100000) (ha : 0 ≤ a ∧ a ≤ 1) :
    VC Try.prog 36 false [.sl (ps.map vi), vi b, vi n, vi a] (.sl ((ps.map (mv b n a)).map vi)) := by
  refine vc_of_wp Try.func36 follows (by kernel_rfl) c36 rfl ?_
  simp [p36]
  refine wpS_loop (fun t => ∃ i : Nat, i ≤ ps.length ∧ t = [.v (.sl (ps.map vi)), .v (vi b), .v (vi n), .v (vi a), .v (.sl []), .v (.sl ((ps.map (vi ∘ mv b n a)).take i)), .v (vi i)]) (fun t => match get t 6 with | .v (.int _ n) => ps.length - n.toNat | _ => 0) ?_ ?_
  · exact ⟨0, by simp, by simp⟩
  · rintro t ⟨i, hi, rfl⟩
    by_cases h : i < ps.length
    · have hx : ps[i]? = some ps[i] := List.getElem?_eq_getElem h
      obtain ⟨hx0, hx1⟩ := hp _ (List.getElem_mem h)
      have hw := wrap_i ((i : Int) + 1) (by omega) (by omega)
      have hstep : (ps.take (i + 1)).map (mv b n a) = (ps.take i).map (mv b n a) ++ [mv b n a ps[i]] := by
        rw [List.take_add_one, hx, List.map_append]; rfl
      by_cases h0 : ps[i] < 0
      · have hm : mv b n a ps[i] = -1 := if_pos h0
        simp [h, h0, hw]
        exact ⟨by simp [lim]; omega, ⟨i + 1, by omega, snoc_map hx (by simp [hm]), by simp⟩, by omega⟩
      · have hn0 : 0 < n := by omega
        have hm : mv b n a ps[i] = a + pick (ps[i] + pick b n) n := if_neg h0
        have hb1 := pick_lt (c := b) hn0
        have hb2 := pick_lt (c := ps[i] + pick b n) hn0
        simp [h, h0]
        refine callW_of (pick9_vc hb hn0) (by simp) ?_
        have hw1 := wrap_i (ps[i] + pick b n) (by omega) (by omega)
        simp [h, hw1]
        refine callW_of (pick9_vc (c := ps[i] + pick b n) ⟨by omega, by omega⟩ hn0) (by simp) ?_
        have hw2 := wrap_i (a + pick (ps[i] + pick b n) n) (by omega) (by omega)
        simp [hw, hw2]
        exact ⟨by simp [lim]; omega, ⟨i + 1, by omega, snoc_map hx (by simp [hm]), by simp⟩, by omega⟩
    · have : i = ps.length := by omega
      subst this
      simp
def mvNd (b n a : Int) (x : Nd) : Nd := ⟨x.ptrs.map (mv b n a), x.data⟩
/-- the node that stands at place i -/
def mvAt (g : Gr) (b : Int) (a : Int) (i : Nat) : Nd := mvNd b g.nodes.length a ((g.nodes[(pick ((i : Int) + g.nodes.length - pick b g.nodes.length) g.nodes.length).toNat]?).getD default)
def Moved (g : Gr) (b : Int) (more : Bool) : Gr :=
  ⟨(if more then [⟨[0], [7]⟩] else []) ++ (List.range g.nodes.length).map (mvAt g b (if more then 1 else 0)), g.roots.map (mv b g.nodes.length (if more then 1 else 0))⟩
theorem Moved_vc {g : Gr} {b : Int} {more : Bool} (hg : g.sm) (hr : right g = true) (hb : Fit b) : VC Try.prog 17 false [grV g, vi b, .bool more] (grV (Moved g b more)) := by
  refine vc_of_wp Try.func17 follows (by kernel_rfl) c17 rfl ?_
  obtain ⟨hg1, hg2, hg3⟩ := hg
  have hl1 : 1 ≤ lim := by simp [lim]
  simp [p17]
  generalize hnn : (if more then [(⟨[0], [7]⟩ : Nd)] else []) = nn
  generalize ha : (if more then (1 : Int) else 0) = a
  have hnl : nn.length ≤ 1 := by subst hnn; cases more <;> simp
  have hab : 0 ≤ a ∧ a ≤ 1 := by subst ha; cases more <;> simp
  have hM : Moved g b more = ⟨nn ++ (List.range g.nodes.length).map (mvAt g b a), g.roots.map (mv b g.nodes.length a)⟩ := by
    unfold Moved; rw [← hnn, ← ha]
  have hlen : ∀ (l : List Nd), (l.map (mvNd b g.nodes.length a)).length = l.length := fun l => by simp
  cases more
  all_goals
    simp only [Bool.false_eq_true, if_false, if_true] at hnn ha
    simp [hl1]
    refine wpS_loop (fun t => ∃ i x2 x8, i ≤ g.nodes.length ∧ t = [.v (grV g), .v (vi b), x2, .m [.sl (g.nodes.map ndV), .sl (g.roots.map vi)], .m [.sl [], .sl []], .v (vi g.nodes.length), .v (vi a),
      .m [.sl (nn.map ndV ++ ((List.range g.nodes.length).map (ndV ∘ mvAt g b a)).take i), .sl []], x8, .v (vi (i : Nat))]) (fun t => match get t 9 with | .v (.int _ n) => g.nodes.length - n.toNat | _ => 0) ?_ ?_
    · exact ⟨0, _, _, by simp, by subst hnn ha; simp [ndV]; exact ⟨rfl, rfl⟩⟩
    · rintro t ⟨i, x2, x8, hi, rfl⟩
      by_cases h : i < g.nodes.length
      · have hw := wrap_i ((i : Int) + 1) (by omega) (by omega)
        have hn0 : (0 : Int) < g.nodes.length := by omega
        have hb1 := pick_lt (c := b) hn0
        simp [h]
        refine callW_of (pick9_vc hb hn0) (by simp) ?_
        have hw1 := wrap_i ((i : Int) + g.nodes.length) (by omega) (by omega)
        have hw2 := wrap_i ((i : Int) + g.nodes.length - pick b g.nodes.length) (by omega) (by omega)
        simp [hw1, hw2]
        refine callW_of (pick9_vc (c := (i : Int) + g.nodes.length - pick b g.nodes.length) ⟨by omega, by omega⟩ hn0) (by simp) ?_
        have hb2 := pick_lt (c := (i : Int) + g.nodes.length - pick b g.nodes.length) hn0
        obtain ⟨k, hk⟩ := Int.eq_ofNat_of_zero_le hb2.1
        have hkl : k < g.nodes.length := by omega
        obtain ⟨s1, s2⟩ := hg3 _ (List.getElem_mem hkl)
        have hat : mvAt g b a i = mvNd b g.nodes.length a g.nodes[k] := by
          unfold mvAt; rw [hk]; simp [hkl]
        simp [hk, hkl]
        refine callW_of (moved9_vc (fun p hp => right_ptrs hr _ (List.getElem_mem hkl) p hp) s1 hb (by omega) hab) (by simp) ?_
        simp [hw]
        have hx : (List.range g.nodes.length)[i]? = some i := List.getElem?_range h
        exact ⟨by simp [lim]; omega, ⟨i + 1, by omega, snoc_map hx (by simp [hat, mvNd, ndV]), by simp⟩, by omega⟩
      · have : i = g.nodes.length := by omega
        subst this
        simp
        refine callW_of (moved9_vc (fun p hp => right_roots hr p hp) hg2 hb (by omega) hab) (by simp) ?_
        simp [hM, grV]
        rw [List.take_of_length_le (by simp)]
end Vm
