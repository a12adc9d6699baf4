/-
  The law GraphTells, as a contract of the code.
-/
import Derived.Test.YtbmgnmjghhakhaaLb
import Derived.Test.YtbmgnmjghhakhaaWq
import Derived.Test.YtbmgnmjghhakhaaGl
namespace Vm
open Go Go.Proofs
set_option linter.unusedSimpArgs false
set_option linter.unusedVariables false
set_option maxRecDepth 100000
set_option maxHeartbeats 1000000
theorem few_small (g : Gr) : (fewG g).nodes.length ≤ 99999 := by simp [fewG]; omega
theorem law8Tells {o : Gr} {l : List Nd} {roots n : List Int} {a : Ac} {v : Int} (hl : ∀ x ∈ l, ∀ p ∈ x.ptrs, Fit p) (hr : ∀ p ∈ roots, Fit p) (ha1 : Fit a.r) (ha2 : Fit a.s) (hn : n.length = 5) (hnf : ∀ p ∈ n, Fit p) :
    VC Try.prog 7 false [grV o, .sl (l.map ndV), .sl (roots.map vi), acV a, .agg (n.map vi), vu v] (.bool true) := by
  refine vc_of_wp Try.func7 follows (by kernel_rfl) c7 rfl ?_
  have hact := Act_vc (v := v) hn hnf
  generalize mkAc n v = ac at *
  match n, hn with
  | [n0, n1, n2, n3, n4], _ =>
  simp [p7]
  refine callW_of awake8_vc (by simp) ?_
  simp
  refine wpS_for 12 6 (fun i => [(11, .m [.sl ((o.nodes.map (ndV ∘ fewNd)).take i), .sl []]), (12, .v (vi i))]) (fun i => i ≤ o.nodes.length) (by simp) (fun i => by simp) (by simp) ?_
  intro i hi6 hi
  by_cases h : i < o.nodes.length ∧ i < 6
  · obtain ⟨h1, h2⟩ := h
    have hx : o.nodes[i]? = some o.nodes[i] := List.getElem?_eq_getElem h1
    have hw := wrap_i ((i : Int) + 1) (by omega) (by omega)
    have h2' : (i : Int) < 6 := by omega
    generalize hnd : o.nodes[i] = x at hx
    have e1 : (if (6 : Int) < (x.ptrs.length : Int) then (6 : Int) else (x.ptrs.length : Int)) = ((min x.ptrs.length 6 : Nat) : Int) := by split <;> omega
    have e2 : (if (6 : Int) < (x.data.length : Int) then (6 : Int) else (x.data.length : Int)) = ((min x.data.length 6 : Nat) : Int) := by split <;> omega
    have e3 : min x.ptrs.length 6 ≤ x.ptrs.length := by omega
    have e4 : min x.data.length 6 ≤ x.data.length := by omega
    have s3 : sizeOk 1 (x.ptrs.map vi) = true := sizeOk_vi _
    have s4 : sizeOk 1 (x.data.map vu) = true := sizeOk_vi _
    simp [h1, h2', hnd, e1, e2, e3, e4, s3, s4, hw]
    refine ⟨by simp [lim]; omega, h2, ?_⟩
    refine ⟨by omega, snoc_map hx ?_⟩
    have t1 : x.ptrs.take (min x.ptrs.length 6) = x.ptrs.take 6 := by
      by_cases hd : x.ptrs.length ≤ 6
      · rw [List.take_of_length_le (by omega), List.take_of_length_le (by omega)]
      · congr 1; omega
    have t2 : x.data.take (min x.data.length 6) = x.data.take 6 := by
      by_cases hd : x.data.length ≤ 6
      · rw [List.take_of_length_le (by omega), List.take_of_length_le (by omega)]
      · congr 1; omega
    simp [fewNd, ndV, ← List.map_take, t1, t2]
  · have hfew : (o.nodes.map (ndV ∘ fewNd)).take i = (fewG o).nodes.map ndV := by
      simp only [fewG, List.map_map, List.map_take]
      by_cases h1 : i < o.nodes.length
      · have : i = 6 := by omega
        rw [this]
      · rw [List.take_of_length_le (by simp; omega), List.take_of_length_le (by simp; omega)]
    have e1 : (if (20 : Int) < (o.roots.length : Int) then (20 : Int) else (o.roots.length : Int)) = ((min o.roots.length 20 : Nat) : Int) := by split <;> omega
    have e2 : min o.roots.length 20 ≤ o.roots.length := by omega
    have s3 : sizeOk 1 (o.roots.map vi) = true := sizeOk_vi _
    have e4 : (o.roots.map vi).take (min o.roots.length 20) = (fewG o).roots.map vi := by
      simp only [fewG, List.map_take]
      by_cases hd : o.roots.length ≤ 20
      · rw [List.take_of_length_le (by simp; omega), List.take_of_length_le (by simp; omega)]
      · congr 1; omega
    rw [hfew]
    have hi6' : i < o.nodes.length → ¬ ((i : Int) < 6) := fun h1 h2 => h ⟨h1, by omega⟩
    have hfs := few_sm o
    have hfl := few_small o
    generalize fewG o = few at *
    have hgo := Graph_vc hl hr
    have hgr := mkG_right l roots
    have hgs := mkG_sm l roots
    have hgb := mkG_bounds l roots
    rw [← mkG_nodes l roots] at hgb
    generalize mkG l roots = g at *
    have hp1 := pick_vc (c := a.r) (n := 5) ha1 (by omega)
    have hp2 := pick_vc (c := a.s) (n := 5) ha2 (by omega)
    by_cases h1 : i < o.nodes.length
    all_goals
      simp [h1, hi6', e1, e2, s3, e4]
      refine callW_of hgo (by simp) ?_
      simp
      have hG : V.sl [V.agg [V.sl (List.map ndV few.nodes), V.sl (List.map vi few.roots)], grV g] = V.sl ([few, g].map grV) := rfl
      rw [hG]
      have hGl : [few, g].length = 2 := rfl
      have hGs : ∀ y ∈ [few, g], y.sm ∧ y.nodes.length ≤ 99999 := by
        intro y hy
        simp at hy
        rcases hy with rfl | rfl
        · exact ⟨hfs, hfl⟩
        · exact ⟨hgs, by omega⟩
      generalize [few, g] = G at *
      refine wpS_for0 14 2 (fun _ => True) (by simp) (by simp) trivial ?_
      rintro j hj -
      have hwj := wrap_i ((j : Int) + 1) (by omega) (by omega)
      by_cases hj2 : j < 2
      · have hj2' : (j : Int) < 2 := by omega
        have hy : G[j]? = some (G[j]'(by omega)) := List.getElem?_eq_getElem (by omega)
        obtain ⟨hys, hyl⟩ := hGs _ (List.getElem_mem (show j < G.length by omega))
        generalize G[j]'(by omega) = y at *
        simp [hj2', hy]
        refine callW_of (right_vc hys) (by simp) ?_
        simp
        refine callW_of (refRight_vc hys) (by simp) ?_
        simp
        refine callW_of (Words_vc hys) (by simp) ?_
        simp
        refine callW_of (refWords_vc hys) (by simp) ?_
        simp
        refine callW_of hact (by simp) ?_
        simp
        refine callW_of hp1 (by simp) ?_
        simp
        refine callW_of hp2 (by simp) ?_
        simp
        have hA : V.sl [V.agg [vi a.kind, vi a.r, vi a.s, vi a.i, vi a.size, vi a.ptrs, vu a.v], acV ac, V.agg [vi a.kind, vi (pick a.r 5), vi (pick a.s 5), vi a.i, vi a.size, vi a.ptrs, vu v]] = V.sl ([a, ac, ⟨a.kind, pick a.r 5, pick a.s 5, a.i, a.size, a.ptrs, v⟩].map acV) := rfl
        rw [hA]
        have hAl : [a, ac, (⟨a.kind, pick a.r 5, pick a.s 5, a.i, a.size, a.ptrs, v⟩ : Ac)].length = 3 := rfl
        generalize [a, ac, (⟨a.kind, pick a.r 5, pick a.s 5, a.i, a.size, a.ptrs, v⟩ : Ac)] = A at *
        refine wpS_for0 20 3 (fun _ => True) (by simp) (by simp) trivial ?_
        rintro k hk -
        have hwk := wrap_i ((k : Int) + 1) (by omega) (by omega)
        by_cases hk3 : k < 3
        · have hk3' : (k : Int) < 3 := by omega
          have hz : A[k]? = some (A[k]'(by omega)) := List.getElem?_eq_getElem (by omega)
          generalize A[k]'(by omega) = z at *
          have hdo := dov (a := z) rfl hys
          have hdr := refDo_vc (a := z) hys
          have hds : (doR y z).2.1.sm := doR_sm ⟨hyl, hys.2.1, hys.2.2⟩
          generalize doR y z = d at *
          obtain ⟨d1, d2, d3⟩ := d
          simp [hk3', hz]
          refine callW_of hdo (by simp [acV]) ?_
          simp [doV]
          refine callW_of hdr (by simp [acV]) ?_
          simp [doV]
          refine callW_of (Same_vc (a := d2) (b := d2) hds) (by simp) ?_
          simp [hwk, hk3]
        · have : k = 3 := by omega
          subst this
          simp [hwj, hj2]
      · have : j = 2 := by omega
        subst this
        simp
end Vm
