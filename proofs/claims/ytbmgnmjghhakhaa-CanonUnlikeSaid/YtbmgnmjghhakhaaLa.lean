/-
  The law GraphShape, as a contract of the code.
-/
import Derived.Test.YtbmgnmjghhakhaaWt
import Derived.Test.YtbmgnmjghhakhaaWv
import Derived.Test.YtbmgnmjghhakhaaWx
import Derived.Test.YtbmgnmjghhakhaaGk
namespace Vm
open Go Go.Proofs
set_option linter.unusedSimpArgs false
set_option linter.unusedVariables false
set_option maxRecDepth 100000
set_option maxHeartbeats 1000000
theorem wsum_append {a b : List Nd} : wsum (a ++ b) = wsum a + wsum b := by simp [wsum]
theorem words_new {g : Gr} (hr : right g = true) {a : Nat} {z p : Int} (hs : shapeOk z p = true) : (words (newGr g a z p) : Int) = words g + 1 + z := by
  obtain ⟨h1, h2, h3, h4⟩ := shapeOk_iff.1 hs
  have hnr : right (newGr g a z p) = true := right_new hr hs a
  simp only [words, hr, hnr, if_true]
  simp [newGr, wsum_append]
  simp [wsum, ndW, freshNd]
  omega
theorem do_new_arg {g : Gr} (hr : right g = true) {a b i z p v : Int} (ha : isRt g a = true) (hs : shapeOk z p = false) : doR g ⟨1, a, b, i, z, p, v⟩ = (0, noGr, 1) := by
  simp [doR, hr, namesR, ha, hs]
theorem law8Shape {l : List Nd} {roots : List Int} {r s i : Int} (hl : ∀ x ∈ l, ∀ p ∈ x.ptrs, Fit p) (hr : ∀ p ∈ roots, Fit p) (hr' : Fit r) (hs' : Fit s) (hi' : Fit i) : VC Try.prog 12 false [.sl (l.map ndV), .sl (roots.map vi), vi r, vi s, vi i] (.bool true) := by
  refine vc_of_wp Try.func12 follows (by kernel_rfl) c12 rfl ?_
  simp [p12]
  refine callW_of awake8_vc (by simp) ?_
  simp
  refine callW_of (Graph_vc hl hr) (by simp) ?_
  have hgr := mkG_right l roots
  have hgs := mkG_sm l roots
  obtain ⟨hb1, hb2, hb3⟩ := mkG_bounds l roots
  have hb4 := mkG_roots l roots
  have hb5 := mkG_nodes l roots
  generalize mkG l roots = g at *
  have ha := pick_lt (c := r) (n := g.roots.length) (by omega)
  have hpa := pick_vc (n := g.roots.length) hr' (by omega)
  have hpz := pick_vc (n := 256) hs' (by omega)
  have hz := pick_lt (c := s) (n := 256) (by omega)
  obtain ⟨a, hae⟩ := Int.eq_ofNat_of_zero_le ha.1
  rw [hae] at hpa
  obtain ⟨z, hze⟩ := Int.eq_ofNat_of_zero_le hz.1
  rw [hze] at hpz hz
  have hpp := pick_vc (n := (z : Int) + 1) hi' (by omega)
  have hp := pick_lt (c := i) (n := (z : Int) + 1) (by omega)
  obtain ⟨p, hpe⟩ := Int.eq_ofNat_of_zero_le hp.1
  rw [hpe] at hpp hp
  have hwz := wrap_i ((z : Int) + 1) (by omega) (by omega)
  have hwzp := wrap_i ((z : Int) - p) (by omega) (by omega)
  have hal : a < g.roots.length := by omega
  have ia : isRt g a = true := isRt_iff.2 ⟨by omega, by omega⟩
  have hsh : shapeOk z p = true := shapeOk_iff.2 ⟨by omega, by omega, by omega, by omega⟩
  have hsn : shapeOk z (z + 1) = false := by
    have := mt (shapeOk_iff (s := z) (p := z + 1)).1 (by omega)
    simpa using this
  have d1 := dov (do_newGr (b := 0) (i := 0) (v := 0) hgr ia hsh) hgs
  have d2 := dov (do_new_arg (b := 0) (i := 0) (v := 0) hgr ia hsn) hgs
  have hwd := words_new hgr (a := a) hsh
  have hxr : right (newGr g a z p) = true := right_new hgr hsh a
  have hxn : (newGr g a z p).nodes = g.nodes ++ [freshNd z p] := rfl
  have hxo : (newGr g a z p).roots = g.roots.set a g.nodes.length := rfl
  generalize newGr g a z p = x at *
  have hxs := right_sm hxr (by simp [hxn]; omega)
  have hwx := Words_vc hxs
  have hwg := Words_vc hgs
  have hng := wsum_le (l := g.nodes) (fun n hn => by have := hb3 n hn; omega) g.nodes.length
  have hgw : (words g : Int) ≤ 100000 * 200001 := by
    simp only [words, hgr, if_true]
    rw [List.take_length] at hng
    have : g.nodes.length * 200001 ≤ 10 * 200001 := Nat.mul_le_mul_right _ (by omega)
    omega
  have hxl : x.nodes.length = g.nodes.length + 1 := by simp [hxn]
  have hxat : x.nodes[g.nodes.length]? = some (freshNd z p) := by simp [hxn]
  have hw1 := wrap_i ((g.nodes.length : Int) + 1) (by omega) (by omega)
  have hw2 := wrap_i ((words g : Int) + 1) (by omega) (by omega)
  have hw3 := wrap_i ((words g : Int) + 1 + z) (by omega) (by omega)
  simp
  refine callW_of hpa (by simp) ?_
  simp
  refine callW_of hpz (by simp) ?_
  simp [hwz]
  refine callW_of hpp (by simp) ?_
  simp
  refine callW_of d1 (by simp [acV]) ?_
  have hpl : (freshNd (z : Int) p).ptrs.length = p := by simp [freshNd]
  have hdl : ((freshNd (z : Int) p).data.length : Int) = (z : Int) - p := by simp [freshNd]; omega
  simp [doV, hxl, hw1, at_of hxat, hpl, hdl, hwzp]
  refine callW_of hwx (by simp) ?_
  simp
  refine callW_of hwg (by simp) ?_
  simp [hw2, hw3, hwd, hxat]
  have hrl : x.roots.length = g.roots.length := by simp [hxo]
  have hro : ∀ i, i < x.roots.length → x.roots[i]? = some (if i = a then (g.nodes.length : Int) else rt g i) := fun i hi => by
    rw [hxo, List.getElem?_set]
    split
    · rename_i h; subst h; simp [hal]
    · rename_i h
      rw [root_at (by omega), if_neg (by omega)]
  have hrg : ∀ i : Nat, i < g.roots.length → rt g i < (g.nodes.length : Int) := fun i hi => (rt_range hgr (isRt_iff.2 ⟨by omega, by omega⟩)).2
  refine wpS_for0 15 x.roots.length (fun _ => True) (by simp) (by simp) trivial ?_
  rintro i hi -
  have hwi := wrap_i ((i : Int) + 1) (by omega) (by omega)
  by_cases h : i < x.roots.length
  · simp [h, hro i h, at_of (hro i h), hwi]
    by_cases hia : i = a
    · simp [hia]
    · have := hrg i (by omega)
      simp [hia]; omega
  · have : i = x.roots.length := by omega
    subst this
    simp
    have hpx : ∀ (k : Nat) (m : Nd), x.nodes[k]? = some m → ∀ y ∈ m.ptrs, y ≠ (g.nodes.length : Int) := fun k m hm y hy => by
      rw [hxn] at hm
      rcases List.mem_append.1 (List.mem_of_getElem? hm) with h | h
      · have := ((right_iff.1 hgr).2.1 m h).2 y hy; omega
      · simp at h
        subst h
        simp [freshNd] at hy
        omega
    refine wpS_for0 18 (g.nodes.length + 1) (fun _ => True) (by simp) (by simp) trivial ?_
    rintro i hi -
    have hwi := wrap_i ((i : Int) + 1) (by omega) (by omega)
    by_cases h : i ≤ g.nodes.length
    · have hm : x.nodes[i]? = some x.nodes[i] := List.getElem?_eq_getElem (by omega)
      have hpi := hpx i _ hm
      have hmo := (right_iff.1 hxr).2.1 _ (List.mem_of_getElem? hm)
      generalize x.nodes[i] = m at *
      have h' : (i : Int) ≤ (g.nodes.length : Int) := by omega
      simp [h, hm]
      refine wpS_for0 20 m.ptrs.length (fun _ => True) (by simp) (by simp) trivial ?_
      rintro k hk -
      have hwk := wrap_i ((k : Int) + 1) (by omega) (by omega)
      by_cases hkl : k < m.ptrs.length
      · have hy : m.ptrs[k]? = some m.ptrs[k] := List.getElem?_eq_getElem hkl
        have hne := hpi _ (List.getElem_mem hkl)
        simp [h, hm, at_of hm, hkl, hne, hwk]
      · have : k = m.ptrs.length := by omega
        subst this
        simp [h, hm, at_of hm, hwi]
        omega
    · have : i = g.nodes.length + 1 := by omega
      subst this
      simp [hwz, show ¬ ((g.nodes.length : Int) + 1 ≤ g.nodes.length) by omega]
      refine callW_of d2 (by simp [acV]) ?_
      simp [doV]
end Vm
