/-
  The law GraphKeeps, as a contract of the code.
-/
import Derived.Test.YtbmgnmjghhakhaaLb
namespace Vm
open Go Go.Proofs
set_option linter.unusedSimpArgs false
set_option linter.unusedVariables false
set_option maxRecDepth 100000
set_option maxHeartbeats 1000000
theorem mkAc_size (n : List Int) (v : Int) : 0 ≤ (mkAc n v).size ∧ (mkAc n v).size < 6 := pick_lt (by omega)
theorem law8Keeps {l : List Nd} {roots n : List Int} {v : Int} (hl : ∀ x ∈ l, ∀ p ∈ x.ptrs, Fit p) (hr : ∀ p ∈ roots, Fit p) (hn : n.length = 5) (hnf : ∀ p ∈ n, Fit p) : VC Try.prog 9 false [.sl (l.map ndV), .sl (roots.map vi), .agg (n.map vi), vu v] (.bool true) := by
  refine vc_of_wp Try.func9 follows (by kernel_rfl) c9 rfl ?_
  have hact := Act_vc (v := v) hn hnf
  have hz := mkAc_size n v
  generalize mkAc n v = a at *
  match n, hn with
  | [n0, n1, n2, n3, n4], _ =>
  simp [p9]
  refine callW_of awake8_vc (by simp) ?_
  simp
  refine callW_of (Graph_vc hl hr) (by simp) ?_
  have hgr := mkG_right l roots
  have hgs := mkG_sm l roots
  obtain ⟨hb1, hb2, hb3⟩ := mkG_bounds l roots
  have hb4 := mkG_roots l roots
  have hb5 := mkG_nodes l roots
  generalize mkG l roots = g at *
  have hdo := dov (a := a) rfl hgs
  simp
  refine callW_of hact (by simp) ?_
  simp
  rcases (did hgr a).kept hgr with h | h | ⟨u, x, h, hk⟩
  · rw [h] at hdo
    refine callW_of hdo (by simp) ?_
    simp [doV, noGr]
  · rw [h] at hdo
    refine callW_of hdo (by simp) ?_
    simp [doV, noGr]
  · rw [h] at hdo
    obtain ⟨hok, hsrt, hrlen, hnlen, hroot, hnode, hptr, hdat, hwords⟩ := hk
    refine callW_of hdo (by simp) ?_
    simp [doV]
    have hxs := right_sm hok (by rw [hnlen]; split <;> omega)
    have hrx := right_vc hxs
    rw [hok] at hrx
    refine callW_of hrx (by simp) ?_
    obtain ⟨e, he, he1, hek⟩ : ∃ e : Nat, x.nodes.length = g.nodes.length + e ∧ e ≤ 1 ∧ (e = 1 → a.kind = 1) := by
      by_cases hk1 : a.kind = 1
      · exact ⟨1, by rw [hnlen, if_pos hk1], by omega, fun _ => hk1⟩
      · exact ⟨0, by rw [hnlen, if_neg hk1], by omega, by omega⟩
    have hw0 := wrap_i ((g.nodes.length : Int) + 1) (by omega) (by omega)
    have hw1 := wrap_i ((g.nodes.length : Int) + e - g.nodes.length) (by omega) (by omega)
    simp [hrlen, he, hw0, hw1, show ¬ (1 < e) by omega]
    simp only [show (g.nodes.length : Int) + e - g.nodes.length = (e : Nat) by omega]
    refine ⟨by omega, by omega, ?_⟩
    refine wpS_for0 15 g.roots.length (fun _ => True) (by simp) (by simp) trivial ?_
    rintro i hi -
    have hwi := wrap_i ((i : Int) + 1) (by omega) (by omega)
    by_cases h1 : i < g.roots.length
    · have hg1 : g.roots[i]? = some g.roots[i] := List.getElem?_eq_getElem h1
      have hx1 : x.roots[i]? = some (x.roots[i]'(by omega)) := List.getElem?_eq_getElem (by omega)
      have hro := hroot i _ _ hg1 hx1
      generalize g.roots[i] = y at *
      generalize x.roots[i]'(by omega) = z at *
      by_cases hyz : z = y
      · simp [h1, hg1, hx1, at_of hg1, at_of hx1, hyz, hwi]
      · obtain ⟨q1, q2, q3, q4⟩ := hro hyz
        simp [h1, hg1, hx1, at_of hg1, at_of hx1, hyz, hwi, q1.symm, q2, q3, q4]
    · have : i = g.roots.length := by omega
      subst this
      simp
      refine wpS_forX 19 g.nodes.length (fun i (t : Nat) => [(14, .v (vi t)), (19, .v (vi i))]) (fun i t => t ≤ 1 ∧ (t = 1 → a.kind = 1 ∨ (a.kind ≠ 1 ∧ rt g a.s < i))) e (by simp) (fun i x => by simp) ⟨he1, fun h => .inl (hek h)⟩ ?_
      rintro i t hi ⟨ht1, htp⟩
      have hwi := wrap_i ((i : Int) + 1) (by omega) (by omega)
      by_cases h1 : i < g.nodes.length
      · have hp : g.nodes[i]? = some g.nodes[i] := List.getElem?_eq_getElem h1
        have hq : x.nodes[i]? = some (x.nodes[i]'(by omega)) := List.getElem?_eq_getElem (by omega)
        have hno := hnode i _ _ hp hq
        have hpt := fun k => hptr i _ _ k hp hq
        have hda := fun k => hdat i _ _ k hp hq
        generalize g.nodes[i] = p at *
        generalize x.nodes[i]'(by omega) = q at *
        have hps := (right_iff.1 hgr).2.1 _ (List.mem_of_getElem? hp)
        simp [h1, hp, hq, at_of hp, at_of hq, hno.1, hno.2]
        refine wpS_forX 24 p.ptrs.length (fun k (t : Nat) => [(14, .v (vi t)), (24, .v (vi k))]) (fun k t => t ≤ 1 ∧ (t = 1 → a.kind = 1 ∨ (a.kind ≠ 1 ∧ rt g a.s < i) ∨ (a.kind = 4 ∧ rt g a.s = i ∧ a.i < k))) t (by simp) (fun i x => by simp) ⟨ht1, fun h => by have := htp h; omega⟩ ?_
        rintro k t hk ⟨ht1, htp⟩
        have hwk := wrap_i ((k : Int) + 1) (by omega) (by omega)
        by_cases h2 : k < p.ptrs.length
        · have hy : p.ptrs[k]? = some p.ptrs[k] := List.getElem?_eq_getElem h2
          have hz : q.ptrs[k]? = some (q.ptrs[k]'(by omega)) := List.getElem?_eq_getElem (by omega)
          have hpk := hpt k
          rw [hy, hz] at hpk
          generalize p.ptrs[k] = y at *
          generalize q.ptrs[k]'(by omega) = z at *
          by_cases hyz : y = z
          · simp [h2, hy, hz, at_of hy, at_of hz, hyz, hwk]
            exact ⟨t, ⟨ht1, fun h => by have := htp h; omega⟩, rfl⟩
          · obtain ⟨q1, q2, q3⟩ := hpk (by simpa using hyz)
            have hs := hsrt (.inl q1)
            obtain ⟨b, hbe, hbl, hbr, -, -⟩ := rt_in hgr hs
            have hgb : g.roots[b]? = some g.roots[b] := List.getElem?_eq_getElem hbl
            have ht0 : t = 0 := by
              rcases Nat.lt_or_ge t 1 with h | h
              · omega
              · have := htp (by omega); omega
            subst ht0
            rw [hbr] at q2
            simp [h2, hy, hz, at_of hy, at_of hz, hyz, hwk, q1, hbe, hbl, hgb, ← q2, ← q3, wrap_i]
            have hbi : rt g b = (i : Int) := by rw [← hbe, hbr, q2]
            exact ⟨1, ⟨by omega, fun _ => by rw [hbi]; omega⟩, by simp⟩
        · have : k = p.ptrs.length := by omega
          subst this
          simp [hno.1, hno.2]
          refine wpS_forX 28 p.data.length (fun k (t : Nat) => [(14, .v (vi t)), (28, .v (vi k))]) (fun k t => t ≤ 1 ∧ (t = 1 → a.kind = 1 ∨ (a.kind ≠ 1 ∧ rt g a.s < i) ∨ (a.kind = 4 ∧ rt g a.s = i) ∨ (a.kind = 5 ∧ rt g a.s = i ∧ a.i < k))) t (by simp) (fun i x => by simp) ⟨ht1, fun h => by have := htp h; omega⟩ ?_
          rintro k t hk ⟨ht1, htp⟩
          have hwk := wrap_i ((k : Int) + 1) (by omega) (by omega)
          by_cases h2 : k < p.data.length
          · have hy : p.data[k]? = some p.data[k] := List.getElem?_eq_getElem h2
            have hz : q.data[k]? = some (q.data[k]'(by omega)) := List.getElem?_eq_getElem (by omega)
            have hpk := hda k
            rw [hy, hz] at hpk
            generalize p.data[k] = y at *
            generalize q.data[k]'(by omega) = z at *
            by_cases hyz : y = z
            · simp [h2, hy, hz, at_of hy, at_of hz, hyz, hwk]
              exact ⟨t, ⟨ht1, fun h => by have := htp h; omega⟩, rfl⟩
            · obtain ⟨q1, q2, q3⟩ := hpk (by simpa using hyz)
              have hs := hsrt (.inr q1)
              obtain ⟨b, hbe, hbl, hbr, -, -⟩ := rt_in hgr hs
              have hgb : g.roots[b]? = some g.roots[b] := List.getElem?_eq_getElem hbl
              have ht0 : t = 0 := by
                rcases Nat.lt_or_ge t 1 with h | h
                · omega
                · have := htp (by omega); omega
              subst ht0
              rw [hbr] at q2
              simp [h2, hy, hz, at_of hy, at_of hz, hyz, hwk, q1, hbe, hbl, hgb, ← q2, ← q3, wrap_i]
              have hbi : rt g b = (i : Int) := by rw [← hbe, hbr, q2]
              exact ⟨1, ⟨by omega, fun _ => by rw [hbi]; omega⟩, by simp⟩
          · have : k = p.data.length := by omega
            subst this
            simp [hno.1, hno.2, hwi]
            exact ⟨t, ⟨ht1, fun h => by have := htp h; omega⟩, rfl⟩
      · have : i = g.nodes.length := by omega
        subst this
        have hwz := wrap_i (1 + a.size) (by omega) (by omega)
        have hng := wsum_le (l := g.nodes) (fun n hn => by have := hb3 n hn; omega) g.nodes.length
        have hgw : (words g : Int) ≤ 100000 * 200001 := by
          simp only [words, hgr, if_true]
          rw [List.take_length] at hng
          have : g.nodes.length * 200001 ≤ 10 * 200001 := Nat.mul_le_mul_right _ (by omega)
          omega
        have hwx := Words_vc hxs
        have hwg := Words_vc hgs
        by_cases hk1 : a.kind = 1
        · simp [hk1, hwz, show (t : Int) ≤ 1 by omega]
          refine callW_of hwx (by simp) ?_
          simp
          refine callW_of hwg (by simp) ?_
          rw [if_pos hk1] at hwords
          simp [hwords]
          rw [wrap_i _ (by omega) (by omega)]
        · simp [hk1, hwz, show (t : Int) ≤ 1 by omega]
          refine callW_of hwx (by simp) ?_
          simp
          refine callW_of hwg (by simp) ?_
          rw [if_neg hk1] at hwords
          simp [hwords]
          rw [wrap_i _ (by omega) (by omega)]
end Vm
