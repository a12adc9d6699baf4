/-
  Heaps that are made of raw numbers: the whole.
-/
import Derived.Test.YtfplljcicihneaaBg
namespace Vm
open Go Go.Proofs
set_option linter.unusedSimpArgs false
set_option linter.unusedVariables false
set_option maxRecDepth 100000
set_option maxHeartbeats 1000000
/-- a place of a node of so many words, where parts have so many -/
def PIn (s : St8) (p : Pl) (sz : Nat) : Prop := p = ⟨0, 0⟩ ∨ ∃ a : Nat, p.at_ = a ∧ ((p.part = 1 ∧ a + sz ≤ s.n1) ∨ (p.part = 2 ∧ a + sz ≤ s.n2))
def POl (s : St8) (p : Pl) (sz : Nat) : Prop := p = ⟨0, 0⟩ ∨ ∃ a : Nat, p.at_ = a ∧ ((p.part = 3 ∧ a + sz ≤ s.n3) ∨ (p.part = 4 ∧ a + sz ≤ s.n4))
theorem stStep_le {x : Rw} {cycle : Bool} {sz i : Nat} {s : St8} : s.n1 ≤ (stStep x cycle sz i s).n1 ∧ s.n2 ≤ (stStep x cycle sz i s).n2 ∧ s.n3 ≤ (stStep x cycle sz i s).n3 ∧ s.n4 ≤ (stStep x cycle sz i s).n4 := by
  unfold stStep
  refine ⟨?_, ?_, ?_, ?_⟩ <;> dsimp only <;> split <;> omega
theorem PIn.mono {s t : St8} {p : Pl} {sz : Nat} (h : PIn s p sz) (h1 : s.n1 ≤ t.n1) (h2 : s.n2 ≤ t.n2) : PIn t p sz := by
  rcases h with h | ⟨a, ha, ⟨hp, h⟩ | ⟨hp, h⟩⟩
  · exact .inl h
  · exact .inr ⟨a, ha, .inl ⟨hp, by omega⟩⟩
  · exact .inr ⟨a, ha, .inr ⟨hp, by omega⟩⟩
theorem POl.mono {s t : St8} {p : Pl} {sz : Nat} (h : POl s p sz) (h1 : s.n3 ≤ t.n3) (h2 : s.n4 ≤ t.n4) : POl t p sz := by
  rcases h with h | ⟨a, ha, ⟨hp, h⟩ | ⟨hp, h⟩⟩
  · exact .inl h
  · exact .inr ⟨a, ha, .inl ⟨hp, by omega⟩⟩
  · exact .inr ⟨a, ha, .inr ⟨hp, by omega⟩⟩
theorem st_places {x : Rw} {cycle : Bool} {g : Gr} (hg : ∀ n ∈ g.nodes, sizN n ≤ 9) : ∀ i, i ≤ g.nodes.length → ∀ (j : Nat) (n : Nd), g.nodes[j]? = some n →
    (∀ p, (stN x cycle g i).here[j]? = some p → PIn (stN x cycle g i) p (sizN n)) ∧ (∀ p, (stN x cycle g i).old[j]? = some p → POl (stN x cycle g i) p (sizN n))
  | 0, _, j, n, hn => ⟨fun p hp => by simp [stN] at hp, fun p hp => by simp [stN] at hp⟩
  | i + 1, hi, j, n, hn => by
    obtain ⟨h1, h2⟩ := st_places (x := x) (cycle := cycle) hg i (by omega) j n hn
    obtain ⟨_, _, l1, l2⟩ := stN_bound (x := x) (cycle := cycle) hg i (by omega)
    have hgi : g.nodes[i]? = some g.nodes[i] := List.getElem?_eq_getElem (by omega)
    simp only [stN, hgi, Option.getD_some]
    generalize stN x cycle g i = s at *
    obtain ⟨q1, q2, q3, q4⟩ := stStep_le (x := x) (cycle := cycle) (sz := sizN g.nodes[i]) (i := i) (s := s)
    have hjl : j < g.nodes.length := (List.getElem?_eq_some_iff.1 hn).1
    constructor
    · intro p hp
      by_cases hj : j < i
      · have : s.here[j]? = some p := by
          simp only [stStep] at hp
          rwa [List.getElem?_append_left (by omega)] at hp
        exact (h1 p this).mono q1 q2
      · by_cases hji : j = i
        · subst hji
          rw [hgi] at hn
          cases hn
          simp only [stStep] at hp
          rw [List.getElem?_append_right (by omega), l1, Nat.sub_self] at hp
          simp only [List.getElem?_cons_zero, Option.some.injEq] at hp
          subst hp
          unfold PIn
          rcases clsK_range x j cycle with hk | hk | ⟨hk, rfl⟩
          · refine .inr ⟨s.n2, by simp [hk], .inr ⟨by simp [hk], by simp [stStep, hk]⟩⟩
          · refine .inr ⟨s.n1, by simp [hk], .inl ⟨by simp [hk], by simp [stStep, hk]⟩⟩
          · exact .inl (by simp [hk])
        · simp only [stStep] at hp
          have := (List.getElem?_eq_some_iff.1 hp).1
          simp at this
          omega
    · intro p hp
      by_cases hj : j < i
      · have : s.old[j]? = some p := by
          simp only [stStep] at hp
          rwa [List.getElem?_append_left (by omega)] at hp
        exact (h2 p this).mono q3 q4
      · by_cases hji : j = i
        · subst hji
          rw [hgi] at hn
          cases hn
          simp only [stStep] at hp
          rw [List.getElem?_append_right (by omega), l2, Nat.sub_self] at hp
          simp only [List.getElem?_cons_zero, Option.some.injEq] at hp
          subst hp
          unfold POl
          by_cases ho : (decide (0 < clsK x j cycle) && cycle) = true
          · cases hf : clsF x j
            · refine .inr ⟨s.n3, by simp [ho], .inl ⟨by simp [ho], by simp [stStep, ho, hf]⟩⟩
            · refine .inr ⟨s.n4, by simp [ho], .inr ⟨by simp [ho], by simp [stStep, ho, hf]⟩⟩
          · exact .inl (by simp only [ho]; rfl)
        · simp only [stStep] at hp
          have := (List.getElem?_eq_some_iff.1 hp).1
          simp at this
          omega
theorem mkG_ptr (l : List Nd) (roots : List Int) : ∀ n ∈ (mkG l roots).nodes, ∀ q ∈ n.ptrs, -1 ≤ q ∧ q < ((mkG l roots).nodes.length : Int) := by
  intro n hn q hq
  rw [mkG_nodes]
  simp only [mkG, List.mem_map] at hn
  obtain ⟨y, _, rfl⟩ := hn
  simp only [mkNd, List.mem_map] at hq
  obtain ⟨p, _, rfl⟩ := hq
  exact rp_in
theorem mkG_rts (l : List Nd) (roots : List Int) : ∀ q ∈ (mkG l roots).roots, -1 ≤ q ∧ q < ((mkG l roots).nodes.length : Int) := by
  intro q hq
  rw [mkG_nodes]
  simp only [mkG] at hq
  split at hq
  · simp at hq
    omega
  · simp only [List.mem_map] at hq
    obtain ⟨p, _, rfl⟩ := hq
    exact rp_in
theorem mkG_dat (l : List Nd) (roots : List Int) (hl : ∀ n ∈ l, ∀ q ∈ n.data, U64 q) : ∀ n ∈ (mkG l roots).nodes, ∀ q ∈ n.data, U64 q := by
  intro n hn q hq
  simp only [mkG, List.mem_map] at hn
  obtain ⟨y, hy, rfl⟩ := hn
  simp only [mkNd] at hq
  exact hl y (List.mem_of_mem_take hy) q (List.mem_of_mem_take hq)
theorem stand_ok {x : Rw} (hx : x.ok) (cycle : Bool) : BOk (standB x cycle) ∧ Fit (standB x cycle).h.scan ∧ rightL (layH (standB x cycle).h) = true := by
  obtain ⟨hb1, hb2, hb3⟩ := mkG_bounds x.nodes x.roots
  have hb5 := mkG_nodes x.nodes x.roots
  have hp := mkG_ptr x.nodes x.roots
  have hr := mkG_rts x.nodes x.roots
  have hd := mkG_dat x.nodes x.roots hx.data
  unfold standB
  generalize mkG x.nodes x.roots = g at *
  have hsz : ∀ n ∈ g.nodes, sizN n ≤ 9 := fun n hn => by have := hb3 n hn; unfold sizN; omega
  obtain ⟨s1, s2, s3, s4⟩ := stN_bound (x := x) (cycle := cycle) hsz g.nodes.length (Nat.le_refl _)
  have hpl := st_places (x := x) (cycle := cycle) hsz g.nodes.length (Nat.le_refl _)
  dsimp only
  generalize stN x cycle g g.nodes.length = s at *
  have hsl := pick_lt (c := x.slack) (n := 12) (by omega)
  have hto := pick_lt (c := x.to) (n := 2) (by omega)
  obtain ⟨cap, hcap⟩ : ∃ cap : Int, max ((s.n1 : Int) + s.n2 + s.wt) ((s.n3 : Int) + s.n4) + pick x.slack 12 = cap := ⟨_, rfl⟩
  rw [hcap]
  have hc0 : 0 ≤ cap ∧ cap ≤ 200 := by omega
  have h1 := Int.emod_nonneg x.base (show (9223372036854775808 - 2 * cap) ≠ 0 by omega)
  have h2 := Int.emod_lt_of_pos x.base (show 0 < (9223372036854775808 - 2 * cap) by omega)
  generalize x.base % (9223372036854775808 - 2 * cap) = base at *
  have hscan : Fit (if cycle = true ∧ 0 < s.n1 then pick x.scan s.n1 else s.n1) := by
    split
    · rename_i h
      have := pick_lt (c := x.scan) (n := s.n1) (by omega)
      exact ⟨by omega, by omega⟩
    · exact ⟨by omega, by omega⟩
  refine ⟨⟨?_, ?_, ?_, ?_, ?_, ?_, ?_, ?_, ?_, ?_, ?_, ?_⟩, hscan, ?_⟩
  · refine ⟨⟨?_, ?_⟩, ⟨?_, ?_⟩, ⟨?_, ?_⟩, ⟨?_, ?_⟩, ⟨?_, ?_⟩, ⟨?_, ?_⟩, ⟨?_, ?_⟩⟩ <;> simp [layH] <;> omega
  · exact s3
  · exact s4
  · show g.nodes.length ≤ 10
    omega
  · exact fun n hn q hq => (hp n hn q hq).2
  · exact hd
  · exact fun q hq => (hr q hq).2
  · exact hb2
  · intro i p n hpi hni
    rcases (hpl i n hni).1 p hpi with h | ⟨a, ha, ⟨hpp, h⟩ | ⟨hpp, h⟩⟩
    · exact .inl h
    · exact .inr ⟨a, ha, .inl hpp, by rw [hpp]; simpa using h⟩
    · exact .inr ⟨a, ha, .inr hpp, by rw [hpp]; simpa using h⟩
  · intro i p n hpi hni
    rcases (hpl i n hni).2 p hpi with h | ⟨a, ha, ⟨hpp, h⟩ | ⟨hpp, h⟩⟩
    · exact .inl h
    · exact .inr ⟨a, ha, .inl hpp, by rw [hpp]; simpa using h⟩
    · exact .inr ⟨a, ha, .inr hpp, by rw [hpp]; simpa using h⟩
  · intro k
    unfold partH
    split
    · simp; omega
    split
    · simp; omega
    split <;> simp <;> omega
  · refine ⟨fun k => ?_, by simp⟩
    have hrep : ∀ m : Nat, ∀ w ∈ List.replicate m (0 : Int), U64 w := fun m w hw => by
      have := (List.mem_replicate.1 hw).2
      subst this
      exact ⟨by omega, by omega⟩
    unfold partH
    split
    · exact hrep _
    split
    · exact hrep _
    split <;> exact hrep _
  · refine rightL_iff.2 ?_
    simp only [layH, List.length_replicate]
    omega
def stillX (x : Rw) : Hp := fillH x (standB x false)
def heapX (x : Rw) : Hp := if (standB x true).h.low.length = 0 then stillX x else fillH x (standB x true)
theorem Still_vc {x : Rw} (hx : x.ok) : VC Try.prog 45 false [rwV x] (hpV (stillX x)) := by
  refine vc_of_wp Try.func45 follows (by kernel_rfl) c45 rfl ?_
  simp [p45]
  refine callW_of (stand_vc hx (cycle := false)) (by simp [rwV]) ?_
  simp
  refine callW_of (fill_vc hx (stand_ok hx false).1) (by simp) ?_
  simp
  rfl
theorem Heap_vc {x : Rw} (hx : x.ok) : VC Try.prog 16 false [rwV x] (hpV (heapX x)) := by
  refine vc_of_wp Try.func16 follows (by kernel_rfl) c16 rfl ?_
  simp [p16]
  refine callW_of (stand_vc hx (cycle := true)) (by simp [rwV]) ?_
  unfold heapX
  by_cases h0 : (standB x true).h.low.length = 0
  · simp [btC, h0]
    refine callW_of (Still_vc hx) (by simp) ?_
    simp
    rfl
  · simp [btC, h0]
    refine callW_of (fill_vc hx (stand_ok hx true).1) (by simp) ?_
    simp
    rfl
theorem fillH_ok {x : Rw} {b : Bt} (hb : BOk b) (hs : Fit b.h.scan) : (fillH x b).ok ∧ layH (fillH x b) = layH b.h ∧ (fillH x b).scan = b.h.scan ∧ (fillH x b).cycle = b.h.cycle := by
  have hl := like_N (x := x) hb b.g.nodes.length (Nat.le_refl _)
  have bd := hl.ok hb
  unfold fillH
  generalize fillN x b b.g.nodes.length = d at *
  obtain ⟨h1, h2, h3, h4, h5, h6, h7, h8, h9, h10, h11, h12⟩ := bd
  have l1 := h11 1
  have l2 := h11 2
  have l3 := h11 3
  have l4 := h11 4
  have w1 := h12.1 1
  have w2 := h12.1 2
  have w3 := h12.1 3
  have w4 := h12.1 4
  simp only [partH1, partH2, partH3, partH4] at l1 l2 l3 l4 w1 w2 w3 w4
  have hrl := hb.rl
  refine ⟨⟨h1.1, h1.2.1, h1.2.2.1, by rw [hl.scan]; exact hs, ?_, ?_, ?_, ?_, ?_, w1, w2, w3, w4, ?_⟩, hl.lay, hl.scan, hl.cycle⟩
  · show d.h.low.length ≤ _; omega
  · show d.h.high.length ≤ _; omega
  · show d.h.old.length ≤ _; omega
  · show d.h.far.length ≤ _; omega
  · simp; omega
  · intro w hw
    simp only [List.mem_map] at hw
    obtain ⟨r, _, rfl⟩ := hw
    split
    · exact refB_range _ _
    · exact ⟨by omega, by omega⟩
end Vm
