/-
  A graph in lists of the call's own, as a value; a graph handed over, as a source.
-/
import Derived.Test.YtbmgnmjghhakhaaDh
namespace Vm
open Go Go.Proofs Go.RowKit
set_option maxHeartbeats 1000000
set_option maxRecDepth 100000
set_option linter.unusedSimpArgs false
set_option linter.unusedVariables false
variable {w : World} {B : Nat} {G : Nat → Prop}
theorem flat_ints {k : IntKind} (l : List Int) : flat (l.map (V.int k)) = l.map (V.int k) := by
  induction l with
  | nil => rfl
  | cons a l ih => rw [List.map_cons, flat_cons, ih]; rfl
theorem own_rd {k : IntKind} {e : TypeId} {v : Value} {l : List Int} (h : w.ownsRow B e 1 v l.length (nums k l)) (hG : ∀ c, B ≤ c → c < w.heap.size → G c) : Rd w G (.sl (l.map (V.int k))) v := by
  rcases h.2 with ⟨rfl, h0⟩ | ⟨g, cap, cur, rfl, hb, hg, hnc, hcm, _⟩
  · have : l = [] := List.length_eq_zero_iff.1 h0
    subst this
    exact .nil _ _ (by unfold maxLen; omega)
  · have := Rd.sl (w := w) (G := G) (l.map (V.int k)) g 0 cap 1 (fun i => (nums k l).getD i undef) (by simpa using hnc) hcm (hG g hb (heap_lt hg)) (fun x hx => by
      obtain ⟨n, _, rfl⟩ := List.mem_map.1 hx
      exact ⟨rfl, fun c hc => by simp [V.cells] at hc; subst hc; rfl⟩) (fun i hi => by
        have hi' : i < l.length := by simpa using hi
        rw [Nat.zero_add, h.cellAt i (by omega)]
        simp [nums, hi']) (fun i c hc => by
        rw [flat_ints] at hc
        obtain ⟨hi, rfl⟩ := List.getElem?_eq_some_iff.1 hc
        have hi' : i < l.length := by simpa using hi
        simp [nums, hi']
        exact .int _ _)
    simpa using this
theorem GHas.rd {g : Gr} {nv rv : Value} {xs : List Value} (h : GHas B w g nv rv xs) (hG : ∀ c, B ≤ c → c < w.heap.size → G c) : Rd w G (grV g) (.agg #[nv, rv]) := by
  have h1 : Rd w G (.sl (g.roots.map vi)) rv := own_rd h.roots hG
  have h2 : Rd w G (.sl (g.nodes.map ndV)) nv := by
    obtain ⟨hl, ha⟩ := h.inner.at
    rcases h.nodes.2 with ⟨rfl, h0⟩ | ⟨gb, cap, cur, rfl, hb, hg, hnc, hcm, _⟩
    · have : g.nodes = [] := List.length_eq_zero_iff.1 h0
      rw [this]
      exact .nil _ _ (by unfold maxLen; omega)
    · have hfit : ∀ x ∈ g.nodes.map ndV, x.fits 2 := fun x hx => by
        obtain ⟨n, _, rfl⟩ := List.mem_map.1 hx
        exact ⟨rfl, fun c hc => by simp at hc; rcases hc with rfl | rfl <;> rfl⟩
      have := Rd.sl (w := w) (G := G) (g.nodes.map ndV) gb 0 cap 2 (fun i => xs.getD i undef) (by simpa using hnc) hcm (hG gb hb (heap_lt hg)) hfit (fun i hi => by
          have hi' : i < g.nodes.length * 2 := by simpa using hi
          have hx : i < xs.length := by omega
          rw [Nat.zero_add, h.nodes.cellAt i (by omega)]
          simp [hx]) (fun i c hc => by
          have hi : i < g.nodes.length * 2 := by
            have := (List.getElem?_eq_some_iff.1 hc).1
            rw [flat_length hfit] at this
            simpa using this
          have hq : i / 2 < g.nodes.length := by omega
          obtain ⟨pv, dv, q1, q2, q3, q4⟩ := ha (i / 2) _ (List.getElem?_eq_getElem hq)
          have hfa := flat_at hfit (i := i / 2) (x := ndV g.nodes[i / 2]) (by simp [hq]) (i % 2) (by omega)
          rw [show i / 2 * 2 + i % 2 = i by omega, hc] at hfa
          rcases Nat.mod_two_eq_zero_or_one i with hm | hm
          · rw [hm] at hfa
            cases hfa
            rw [show i / 2 * 2 = i by omega] at q1
            simp only [List.getD_eq_getElem?_getD, q1, Option.getD_some]
            exact own_rd q3 hG
          · rw [hm] at hfa
            cases hfa
            rw [show i / 2 * 2 + 1 = i by omega] at q2
            simp only [List.getD_eq_getElem?_getD, q2, Option.getD_some]
            exact own_rd q4 hG)
      simpa using this
  refine .agg _ _ rfl (fun c hc => by simp at hc; rcases hc with rfl | rfl <;> rfl) fun i c hc => ?_
  match i, hc with
  | 0, hc => cases hc; exact h2
  | 1, hc => cases hc; exact h1
theorem Rd.slf {l : List V} {v : Value} (h : Rd w G (.sl l) v) : ∃ a c, v = .slice a l.length c := by
  cases h with
  | nil a cap _ => exact ⟨a, cap, rfl⟩
  | sl l b o cap k vs => exact ⟨_, cap, rfl⟩
theorem Rd.src {g : Gr} {v : Value} (h : Rd w G (grV g) v) (hG : ∀ b, G b → b < w.heap.size) (hg : g.sm) : ∃ a0 c0 rv0, v = .agg #[.slice a0 g.nodes.length c0, rv0] ∧ Rd w G (.sl (g.roots.map vi)) rv0 ∧
    (0 < g.nodes.length → ∃ bs os, a0 = some ⟨bs, os, none⟩ ∧ ∀ (k : Nat) (x : Nd), g.nodes[k]? = some x → (x.ptrs.length ≤ 100000 ∧ x.data.length ≤ 100000) ∧ ∃ pa pc da dc, bs < w.heap.size ∧ w.cell? ⟨bs, os + k * 2, none⟩ = some (.slice pa x.ptrs.length pc) ∧ w.cell? ⟨bs, os + k * 2 + 1, none⟩ = some (.slice da x.data.length dc) ∧
      Rd w G (.sl (x.ptrs.map vi)) (.slice pa x.ptrs.length pc) ∧ Rd w G (.sl (x.data.map vu)) (.slice da x.data.length dc)) := by
  cases h with
  | agg cs vs hs _ hr =>
    have r0 := hr 0 _ rfl
    have r1 := hr 1 _ rfl
    obtain ⟨⟨l⟩⟩ := vs
    · simp at hs
    rename_i v0 l
    cases l with
    | nil => simp at hs
    | cons v1 l =>
      cases l with
      | cons _ _ => simp at hs
      | nil =>
        simp at r0 r1
        obtain ⟨a0, c0, rfl⟩ := Rd.slf r0
        simp only [List.length_map]
        refine ⟨a0, c0, v1, rfl, r1, fun hpos => ?_⟩
        generalize hL : g.nodes.map ndV = L at r0
        generalize hv : Value.slice a0 L.length c0 = v at r0
        cases r0 with
        | nil a cap _ => simp at hL; rw [hL] at hpos; simp at hpos
        | sl l b o cap k vs h1 h2 h3 h4 h5 h6 =>
          cases hv
          subst hL
          have hk : k = 2 := by
            have hm : ndV g.nodes[0] ∈ g.nodes.map ndV := List.mem_map.2 ⟨_, List.getElem_mem hpos, rfl⟩
            have := (h4 _ hm).1
            simpa using this.symm
          subst hk
          refine ⟨b, o, rfl, fun j x hx => ?_⟩
          have hj : j < g.nodes.length := (List.getElem?_eq_some_iff.1 hx).1
          have hf : ∀ i, i < 2 → (Vm.flat (g.nodes.map ndV))[j * 2 + i]? = (ndV x).cells[i]? := fun i hi => flat_at h4 (by simp [hx]) i hi
          have f0 := h6 (j * 2) _ (hf 0 (by omega))
          have f1 := h6 (j * 2 + 1) _ (hf 1 (by omega))
          obtain ⟨pa, pc, e0⟩ := Rd.slf f0
          obtain ⟨da, dc, e1⟩ := Rd.slf f1
          have c0 := h5 (j * 2) (by simp; omega)
          have c1 := h5 (j * 2 + 1) (by simp; omega)
          rw [e0] at f0 c0
          rw [e1] at f1 c1
          simp only [List.length_map] at f0 f1 c0 c1
          exact ⟨hg.2.2 x (List.mem_of_getElem? hx), pa, pc, da, dc, hG b h3, c0, by rw [Nat.add_assoc]; exact c1, f0, f1⟩
theorem Rd.actf {a : Ac} {v : Value} (h : Rd w G (acV a) v) : v = .agg #[.int .i64 a.kind, .int .i64 a.r, .int .i64 a.s, .int .i64 a.i, .int .i64 a.size, .int .i64 a.ptrs, .int .u64 a.v] := by
  cases h with
  | agg cs vs hs _ hr =>
    have h0 := (hr 0 _ rfl).int_eq
    have h1 := (hr 1 _ rfl).int_eq
    have h2 := (hr 2 _ rfl).int_eq
    have h3 := (hr 3 _ rfl).int_eq
    have h4 := (hr 4 _ rfl).int_eq
    have h5 := (hr 5 _ rfl).int_eq
    have h6 := (hr 6 _ rfl).int_eq
    congr 1
    apply Array.ext
    · simpa using hs
    · intro i hi1 hi2
      have hi : i < 7 := by simpa using hi2
      match i, hi with
      | 0, _ | 1, _ | 2, _ | 3, _ | 4, _ | 5, _ | 6, _ => simp_all
theorem slot_err {g : Gr} {a : Ac} (h : (slotR g a).2.2 ≠ 0) : ∃ c, c ≠ 0 ∧ slotR g a = (0, noGr, c) := by
  unfold slotR at *
  dsimp only at *
  split at h
  · rename_i q; rw [if_pos q]; exact ⟨6, by omega, rfl⟩
  · rename_i q
    rw [if_neg q]
    by_cases k : a.kind = 3 ∨ a.kind = 5
    · simp only [if_pos k] at h ⊢
      split at h
      · rename_i q; rw [if_pos q]; exact ⟨1, by omega, rfl⟩
      · repeat' split at h
        all_goals exact absurd rfl h
    · simp only [if_neg k] at h ⊢
      split at h
      · rename_i q; rw [if_pos q]; exact ⟨1, by omega, rfl⟩
      · repeat' split at h
        all_goals exact absurd rfl h
theorem doR_err {g : Gr} {a : Ac} (h : (doR g a).2.2 ≠ 0) : ∃ c, c ≠ 0 ∧ doR g a = (0, noGr, c) := by
  unfold doR at *
  split at h
  · rename_i q
    rw [if_pos q]
    split at h
    · rename_i q
      rw [if_pos q]
      split at h
      · exact absurd rfl h
      · rename_i q; rw [if_neg q]; exact ⟨1, by omega, rfl⟩
    · rename_i q
      rw [if_neg q]
      split at h
      · exact absurd rfl h
      · rename_i q
        rw [if_neg q]
        split at h
        · exact absurd rfl h
        · rename_i q
          rw [if_neg q]
          exact slot_err h
  · rename_i q; rw [if_neg q]; exact ⟨1, by omega, rfl⟩
end Vm
