/-
  The law CanonActs, as a contract of the code.
-/
import Derived.Test.YtbmgnmjghhakhaaLf
import Derived.Test.YtbmgnmjghhakhaaGm
namespace Vm
open Go Go.Proofs
set_option linter.unusedSimpArgs false
set_option linter.unusedVariables false
set_option maxRecDepth 100000
set_option maxHeartbeats 1000000
theorem alike_iso {S : Int → Prop} {g h : Gr} {f : Int → Int} (hg : right g = true) (hh : right h = true) (hi : Iso S g h f) : alike g h = true := by
  simp [alike, hg, hh, hi.canon hg hh]
theorem mkG_Moved_nodes (g : Gr) (b : Int) (more : Bool) : (Moved g b more).nodes.length ≤ g.nodes.length + 1 := by cases more <;> simp [Moved] <;> omega
theorem law9Acts {l : List Nd} {roots : List Int} {b : Int} {acts : List (List Int)} {vs : List Int} (hl : ∀ x ∈ l, ∀ p ∈ x.ptrs, Fit p) (hr : ∀ p ∈ roots, Fit p) (hb : Fit b) (hacts : ∀ a ∈ acts, a.length = 5 ∧ ∀ p ∈ a, Fit p) :
    VC Try.prog 13 false [.sl (l.map ndV), .sl (roots.map vi), vi b, .sl (acts.map fun a => .agg (a.map vi)), .sl (vs.map vu)] (.bool true) := by
  refine vc_of_wp Try.func13 follows (by kernel_rfl) c13 rfl ?_
  simp [p13]
  refine callW_of awake9_vc (by simp) ?_
  simp
  refine callW_of (Graph_vc hl hr) (by simp) ?_
  have hgr := mkG_right l roots
  have hgs := mkG_sm l roots
  obtain ⟨hb1, hb2, hb3⟩ := mkG_bounds l roots
  have hb5 := mkG_nodes l roots
  generalize mkG l roots = g at *
  generalize hmore : decide (b.tmod 2 = 0) = more at *
  have hmv := Moved_vc (more := more) hgs hgr hb
  have hxr := right_Moved hgr b more
  have hxn := mkG_Moved_nodes g b more
  have hiso := iso_of_canon hgr hxr (canon_Moved hgr b more).symm
  generalize Moved g b more = x at *
  simp [hmore]
  refine callW_of hmv (by simp) ?_
  simp
  refine wpS_forX 9 12 (fun i (p : Gr × Gr) => [(7, .m [.sl (p.1.nodes.map ndV), .sl (p.1.roots.map vi)]), (8, .m [.sl (p.2.nodes.map ndV), .sl (p.2.roots.map vi)]), (9, .v (vi i))])
    (fun i p => p.1.nodes.length ≤ 20 + i ∧ p.2.nodes.length ≤ 20 + i ∧ right p.1 = true ∧ right p.2 = true ∧ ∃ S f, Iso S p.1 p.2 f) (g, x) (by simp) (fun i x => by simp) ⟨by simp only; omega, by simp only; omega, hgr, hxr, _, _, hiso⟩ ?_
  rintro j ⟨y, z⟩ hj ⟨hyl, hzl, hyr, hzr, S, f, hyz⟩
  simp only at hyl hzl hyr hzr hyz
  have hys := right_sm hyr (by omega)
  have hzs := right_sm hzr (by omega)
  have hwj := wrap_i ((j : Int) + 1) (by omega) (by omega)
  by_cases h1 : j < acts.length ∧ j < 12
  · obtain ⟨h1, h2⟩ := h1
    have h2' : (j : Int) < 12 := by omega
    have hac : acts[j]? = some acts[j] := List.getElem?_eq_getElem h1
    obtain ⟨hn5, hnf⟩ := hacts _ (List.getElem_mem h1)
    have hact := fun v => Act_vc (v := v) hn5 hnf
    generalize acts[j] = c at *
    match c, hn5 with
    | [n0, n1, n2, n3, n4], _ =>
    by_cases hv : j < vs.length
    case' pos =>
      have hvv : vs[j]? = some vs[j] := List.getElem?_eq_getElem hv
      have hact := hact vs[j]
      generalize mkAc [n0, n1, n2, n3, n4] vs[j] = a at *
      simp [h1, h2', hac, at_of hac, hv, hvv]
    case' neg =>
      have hact := hact (IntKind.u64.wrap j)
      generalize mkAc [n0, n1, n2, n3, n4] (IntKind.u64.wrap j) = a at *
      simp [h1, h2', hac, at_of hac, hv]
    all_goals
      refine callW_of hact (by simp) ?_
      simp
      have hd1 := dov (a := a) rfl hys
      have hd2 := dov (a := a) rfl hzs
      have k1 := (did hyr a).kept hyr
      have k2 := (did hzr a).kept hzr
      rcases iso_do hyr hzr hyz a with ⟨e, he, e1, e2⟩ | ⟨u, y', z', S', f', e1, e2, hi'⟩
      · rw [e1] at hd1
        rw [e2] at hd2
        refine callW_of hd1 (by simp [acV]) ?_
        simp [doV]
        refine callW_of hd2 (by simp [acV]) ?_
        simp [doV, he]
        have hal := Alike_vc hys hzs
        rw [alike_iso hyr hzr hyz] at hal
        refine callW_of hal (by simp) ?_
        simp [hwj, h2]
        exact ⟨y, z, ⟨by omega, by omega, hyr, hzr, _, _, hyz⟩, ⟨rfl, rfl⟩, rfl, rfl⟩
      · rw [e1] at hd1 k1
        rw [e2] at hd2 k2
        have k1 : Kept y a y' := by
          rcases k1 with h | h | ⟨_, _, h, hk⟩
          · simp at h
          · simp at h
          · cases h; exact hk
        have k2 : Kept z a z' := by
          rcases k2 with h | h | ⟨_, _, h, hk⟩
          · simp at h
          · simp at h
          · cases h; exact hk
        have n1 : y'.nodes.length ≤ 20 + (j + 1) := by rw [k1.nlen]; split <;> omega
        have n2 : z'.nodes.length ≤ 20 + (j + 1) := by rw [k2.nlen]; split <;> omega
        refine callW_of hd1 (by simp [acV]) ?_
        simp [doV]
        refine callW_of hd2 (by simp [acV]) ?_
        simp [doV]
        have hal := Alike_vc (right_sm k1.ok (by omega)) (right_sm k2.ok (by omega))
        rw [alike_iso k1.ok k2.ok hi'] at hal
        refine callW_of hal (by simp) ?_
        simp [hwj, h2]
        exact ⟨y', z', ⟨n1, n2, k1.ok, k2.ok, _, _, hi'⟩, ⟨rfl, rfl⟩, rfl, rfl⟩
  · by_cases ha : j < acts.length
    · have : ¬ ((j : Int) < 12) := by omega
      simp [ha, this]
    · simp [ha]
end Vm
