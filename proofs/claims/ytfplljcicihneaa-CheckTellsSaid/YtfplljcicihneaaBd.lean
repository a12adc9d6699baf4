/-
  Raw graphs: what Graph (of layer 8's statements) makes of raw numbers.
-/
import Derived.Test.YtfplljcicihneaaBc
import Derived.Test.YtfplljcicihneaaHd
namespace Vm
open Go Go.Proofs
set_option linter.unusedSimpArgs false
set_option linter.unusedVariables false
set_option maxRecDepth 100000
structure Nd where
  ptrs : List Int
  data : List Int
  deriving DecidableEq, Inhabited
structure Gr where
  nodes : List Nd
  roots : List Int
  deriving DecidableEq, Inhabited
def ndV (n : Nd) : V := .agg [.sl (n.ptrs.map vi), .sl (n.data.map vu)]
def grV (g : Gr) : V := .agg [.sl (g.nodes.map ndV), .sl (g.roots.map vi)]
@[simp] theorem ndV_cells (n : Nd) : (ndV n).cells = [.sl (n.ptrs.map vi), .sl (n.data.map vu)] := rfl
@[simp] theorem sizeOk_ndV (l : List Nd) : sizeOk 2 (l.map ndV) = true := sizeOk_map fun _ => rfl
@[simp] theorem fldsV_ndV (n : Nd) : fldsV (ndV n) 0 2 = some (ndV n) := rfl
@[simp] theorem fldV_ndV0 (n : Nd) : fldV (ndV n) 0 = some (.sl (n.ptrs.map vi)) := rfl
@[simp] theorem fldV_ndV1 (n : Nd) : fldV (ndV n) 1 = some (.sl (n.data.map vu)) := rfl
@[simp] theorem szV_ndV (n : Nd) : szV (ndV n) 2 = some (ndV n) := rfl
@[simp] theorem fldsV_grV (g : Gr) : fldsV (grV g) 0 2 = some (grV g) := rfl
@[simp] theorem fldV_grV0 (g : Gr) : fldV (grV g) 0 = some (.sl (g.nodes.map ndV)) := rfl
@[simp] theorem fldV_grV1 (g : Gr) : fldV (grV g) 1 = some (.sl (g.roots.map vi)) := rfl
@[simp] theorem szV_grV (g : Gr) : szV (grV g) 2 = some (grV g) := rfl
@[simp] theorem grV_cells (g : Gr) : (grV g).cells = [.sl (g.nodes.map ndV), .sl (g.roots.map vi)] := rfl
@[simp] theorem slcV_zero {k : IntKind} {l : List V} (j n : Nat) : slcV n (.sl l) (.int k 0) (.int k (j : Int)) = if j ≤ l.length ∧ sizeOk n l = true then some (.sl (l.take j)) else none := by
  have := slcV_nat (k := k) (l := l) 0 j n
  simpa using this
/-- a raw pointer -/
def rp (n : Nat) (p : Int) : Int := pick p (n + 1) - 1
def mkNd (n : Nat) (x : Nd) : Nd := ⟨(x.ptrs.take 4).map (rp n), x.data.take 4⟩
def mkN (l : List Nd) : Nat := min l.length 10
def mkG (l : List Nd) (roots : List Int) : Gr := ⟨(l.take (mkN l)).map (mkNd (mkN l)), if roots.take 5 = [] then [(mkN l : Int) - 1] else (roots.take 5).map (rp (mkN l))⟩
theorem Graph_vc {l : List Nd} {roots : List Int} (hl : ∀ x ∈ l, ∀ p ∈ x.ptrs, Fit p) (hr : ∀ p ∈ roots, Fit p) : VC Try.prog 84 false [.sl (l.map ndV), .sl (roots.map vi)] (grV (mkG l roots)) := by
  refine vc_of_wp Try.func84 follows (by kernel_rfl) c84 rfl ?_
  have hn10 : mkN l ≤ 10 := by unfold mkN; omega
  have hnl : mkN l ≤ l.length := by unfold mkN; omega
  have hmin : (if (10 : Int) < (l.length : Int) then (10 : Int) else (l.length : Int)) = (mkN l : Int) := by
    unfold mkN; split <;> omega
  simp [p84, hmin]
  generalize hn : mkN l = n at *
  have hwn := wrap_i ((n : Int) + 1) (by omega) (by omega)
  refine wpS_loop (fun t => ∃ i : Nat, i ≤ n ∧ t = [.v (.sl (l.map ndV)), .v (.sl (roots.map vi)), .m [.sl [], .sl []], .v (vi n), .m [.sl (((l.take i).map (mkNd n)).map ndV), .sl []], .v (vi i)]) (fun t => match get t 5 with | .v (.int _ i) => n - i.toNat | _ => 0) ?_ ?_
  · exact ⟨0, by simp, by simp⟩
  · rintro t ⟨i, hi, rfl⟩
    have hw := wrap_i ((i : Int) + 1) (by omega) (by omega)
    by_cases h : i < n
    · have hil : i < l.length := by omega
      have hx : l[i]? = some l[i] := List.getElem?_eq_getElem hil
      simp [h]
      generalize hnd : l[i] = x at hx
      have hxp : ∀ p ∈ x.ptrs, Fit p := hl x (List.mem_of_getElem? hx)
      have hdm : (if (4 : Int) < (x.data.length : Int) then (4 : Int) else (x.data.length : Int)) = ((min x.data.length 4 : Nat) : Int) := by split <;> omega
      refine wpS_loop (fun t => ∃ k : Nat, k ≤ x.ptrs.length ∧ k ≤ 4 ∧ t = [.v (.sl (l.map ndV)), .v (.sl (roots.map vi)), .m [.sl [], .sl []], .v (vi n), .m [.sl (((l.take i).map (mkNd n)).map ndV), .sl []], .v (vi i), .v (.bool true), .m [.sl (((x.ptrs.take k).map (rp n)).map vi), .sl []], .v (vi k)]) (fun t => match get t 8 with | .v (.int _ i) => 4 - i.toNat | _ => 0) ?_ ?_
      · exact ⟨0, by simp, by simp, by simp⟩
      · rintro t ⟨k, hk, hk4, rfl⟩
        have hwk := wrap_i ((k : Int) + 1) (by omega) (by omega)
        by_cases h4 : k < x.ptrs.length ∧ k < 4
        · obtain ⟨ha, hb⟩ := h4
          have hp : x.ptrs[k]? = some x.ptrs[k] := List.getElem?_eq_getElem ha
          have hkb : (k : Int) < 4 := by omega
          simp [hil, hnd, ha, hkb, hwn]
          refine callW_of (pick08_vc (hxp _ (List.getElem_mem ha)) (by omega)) (by simp) ?_
          have hpl := pick_lt (c := x.ptrs[k]) (n := (n : Int) + 1) (by omega)
          have hwp := wrap_i (pick x.ptrs[k] ((n : Int) + 1) - 1) (by omega) (by omega)
          simp [hwk, hwp]
          refine ⟨by simp [lim]; omega, ⟨k + 1, by omega, by omega, ?_, by simp⟩, by omega⟩
          rw [List.take_add_one, List.getElem?_map, hp]
          rfl
        · have hend : (x.ptrs.take k) = x.ptrs.take 4 := by
            by_cases ha : k < x.ptrs.length
            · have : k = 4 := by omega
              rw [this]
            · rw [List.take_of_length_le (by omega), List.take_of_length_le (by omega)]
          have hfin : (l.take (i + 1)).map (ndV ∘ mkNd n) = (l.take i).map (ndV ∘ mkNd n) ++ [V.agg [.sl ((x.ptrs.take k).map (vi ∘ rp n)), .sl ((x.data.take (min x.data.length 4)).map vu)]] := by
            rw [List.take_add_one, hx, List.map_append, hend]
            have hmd : x.data.take (min x.data.length 4) = x.data.take 4 := by
              by_cases hd : x.data.length ≤ 4
              · rw [List.take_of_length_le (by omega), List.take_of_length_le (by omega)]
              · congr 1; omega
            rw [hmd]
            simp [ndV, mkNd]
          have hsz : sizeOk 1 ((x.data.take (min x.data.length 4)).map vu) = true := sizeOk_vi _
          have hl1 : min x.data.length 4 ≤ lim := by simp [lim]; omega
          have hl2 : min i l.length + 1 ≤ lim := by simp [lim]; omega
          have hl3 : min x.data.length 4 ≤ x.data.length := by omega
          simp only [List.map_take] at hfin hsz
          have hkb : k < x.ptrs.length → ¬ (k : Int) < 4 := by omega
          by_cases ha : k < x.ptrs.length
          all_goals (
            simp [hil, hnd, ha, hkb, hdm, hl1, hl2, hsz, hw, hl3]
            exact ⟨⟨i + 1, by omega, hfin.symm, by simp⟩, by omega⟩)
    · have : i = n := by omega
      subst this
      simp
      have hwn1 := wrap_i ((i : Int) - 1) (by omega) (by omega)
      refine wpS_loop (fun t => ∃ k : Nat, k ≤ roots.length ∧ k ≤ 5 ∧ t = [.v (.sl (l.map ndV)), .v (.sl (roots.map vi)), .m [.sl [], .sl []], .v (vi i), .m [.sl ((l.take i).map (ndV ∘ mkNd i)), .sl ((roots.take k).map (vi ∘ rp i))], .v (vi i), .v (.bool false), .no, .no, .no, .v (vi k)]) (fun t => match get t 10 with | .v (.int _ i) => 5 - i.toNat | _ => 0) ?_ ?_
      · exact ⟨0, by simp, by simp, by simp⟩
      · rintro t ⟨k, hk, hk5, rfl⟩
        have hwk := wrap_i ((k : Int) + 1) (by omega) (by omega)
        by_cases h5 : k < roots.length ∧ k < 5
        · obtain ⟨ha, hb⟩ := h5
          have hp : roots[k]? = some roots[k] := List.getElem?_eq_getElem ha
          have hkb : (k : Int) < 5 := by omega
          simp [ha, hkb, hwn]
          refine callW_of (pick08_vc (hr _ (List.getElem_mem ha)) (by omega)) (by simp) ?_
          have hpl := pick_lt (c := roots[k]) (n := (i : Int) + 1) (by omega)
          have hwp := wrap_i (pick roots[k] ((i : Int) + 1) - 1) (by omega) (by omega)
          simp [hwk, hwp]
          refine ⟨by simp [lim]; omega, ⟨k + 1, by omega, by omega, ?_, by simp⟩, by omega⟩
          rw [List.take_add_one, List.getElem?_map, hp]
          rfl
        · have hend : (roots.take k) = roots.take 5 := by
            by_cases ha : k < roots.length
            · have : k = 5 := by omega
              rw [this]
            · rw [List.take_of_length_le (by omega), List.take_of_length_le (by omega)]
          have hkb : k < roots.length → ¬ (k : Int) < 5 := by omega
          have hg : mkG l roots = ⟨(l.take i).map (mkNd i), if roots.take 5 = [] then [(i : Int) - 1] else (roots.take 5).map (rp i)⟩ := by
            unfold mkG; rw [hn]
          have hlen : (roots.take k).length = k := by rw [List.length_take]; omega
          by_cases hz : k = 0
          · subst hz
            have hnil : roots.take 5 = [] := by rw [← hend]; rfl
            rw [hg, if_pos hnil]
            have ha : ¬ 0 < roots.length := by omega
            have hl1 : 1 ≤ lim := by simp [lim]
            simp [ha, grV, hwn1, hl1]
          · have hnil : roots.take 5 ≠ [] := by
              rw [← hend]; intro h; rw [h] at hlen; simp at hlen; omega
            rw [hg, if_neg hnil, ← hend]
            have hr0 : ¬ roots = [] := by intro h; rw [h] at hk; simp at hk; omega
            by_cases ha : k < roots.length
            all_goals simp [ha, hkb, grV, hz, hr0]
theorem rp_in {n : Nat} {p : Int} : -1 ≤ rp n p ∧ rp n p < n := by
  have := pick_lt (c := p) (n := (n : Int) + 1) (by omega)
  unfold rp; omega
theorem mkG_nodes (l : List Nd) (roots : List Int) : (mkG l roots).nodes.length = mkN l := by
  simp [mkG, mkN]
theorem mkG_bounds (l : List Nd) (roots : List Int) : mkN l ≤ 10 ∧ (mkG l roots).roots.length ≤ 5 ∧ ∀ x ∈ (mkG l roots).nodes, x.ptrs.length ≤ 4 ∧ x.data.length ≤ 4 := by
  refine ⟨by unfold mkN; omega, ?_, fun x hx => ?_⟩
  · simp only [mkG]; split
    · simp
    · simp; omega
  · simp only [mkG, List.mem_map] at hx
    obtain ⟨y, _, rfl⟩ := hx
    simp only [mkNd, List.length_map, List.length_take]; omega
end Vm
