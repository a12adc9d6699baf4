/-
  The law GraphRoots, as a contract of the code.
-/
import Derived.Test.YtbmgnmjghhakhaaWs
import Derived.Test.YtbmgnmjghhakhaaGj
namespace Vm
open Go Go.Proofs
set_option linter.unusedSimpArgs false
set_option linter.unusedVariables false
set_option maxRecDepth 100000
set_option maxHeartbeats 1000000
theorem mkG_roots (l : List Nd) (roots : List Int) : 0 < (mkG l roots).roots.length := by
  simp only [mkG]; split
  · simp
  · rename_i h
    cases roots with
    | nil => simp at h
    | cons a t => simp
theorem root_at {g : Gr} {a : Nat} (h : a < g.roots.length) : g.roots[a]? = some (rt g a) := by
  simp [rt, h]
theorem law8Roots {l : List Nd} {roots : List Int} {r s i v : Int} (hl : ∀ x ∈ l, ∀ p ∈ x.ptrs, Fit p) (hr : ∀ p ∈ roots, Fit p) (hr' : Fit r) (hs' : Fit s) (hi' : Fit i) : VC Try.prog 10 false [.sl (l.map ndV), .sl (roots.map vi), vi r, vi s, vi i, vu v] (.bool true) := by
  refine vc_of_wp Try.func10 follows (by kernel_rfl) c10 rfl ?_
  simp [p10]
  refine callW_of awake8_vc (by simp) ?_
  simp
  refine callW_of (Graph_vc hl hr) (by simp) ?_
  have hgr := mkG_right l roots
  have hgs := mkG_sm l roots
  obtain ⟨hb1, hb2, hb3⟩ := mkG_bounds l roots
  have hb4 := mkG_roots l roots
  have hb5 := mkG_nodes l roots
  generalize mkG l roots = g at *
  have ha := pick_lt (c := r) (n := g.roots.length) (by omega)
  have hb := pick_lt (c := s) (n := g.roots.length) (by omega)
  have hpa := pick_vc (n := g.roots.length) hr' (by omega)
  have hpb := pick_vc (n := g.roots.length) hs' (by omega)
  have hp4 := pick_vc (n := 4) hi' (by omega)
  have hk := pick_lt (c := i) (n := 4) (by omega)
  have hp9 := pick_vc (n := 9) hi' (by omega)
  have hk9 := pick_lt (c := i) (n := 9) (by omega)
  obtain ⟨a, hae⟩ := Int.eq_ofNat_of_zero_le ha.1
  obtain ⟨b, hbe⟩ := Int.eq_ofNat_of_zero_le hb.1
  rw [hae] at hpa
  rw [hbe] at hpb
  have hal : a < g.roots.length := by omega
  have hbl : b < g.roots.length := by omega
  have ia : isRt g a = true := isRt_iff.2 ⟨by omega, by omega⟩
  have ib : isRt g b = true := isRt_iff.2 ⟨by omega, by omega⟩
  have h1 := dov (do_assign (i := 0) (z := 0) (p := 0) (v := 0) hgr ia ib) hgs
  have h2 := dov (do_drop (b := 0) (i := 0) (z := 0) (p := 0) (v := 0) hgr ia) hgs
  have hxr := right_rooted hgr (r := a) (rt_range hgr ib)
  have hyr := right_rooted hgr (r := a) (x := -1) (by omega)
  have hxa : rt (rooted g a (rt g b)) a = rt g b := rt_rooted_same ia
  have hya : rt (rooted g a (-1)) a = -1 := rt_rooted_same ia
  have hxb : rt (rooted g a (rt g b)) b = rt g b := by
    by_cases h : (a : Int) = b
    · rw [h]; exact rt_rooted_same ib
    · exact rt_rooted_ne ia ib h
  have hxl : (rooted g a (rt g b)).roots.length = g.roots.length := by simp [rooted]
  have hyl : (rooted g a (-1)).roots.length = g.roots.length := by simp [rooted]
  have hxn : (rooted g a (rt g b)).nodes = g.nodes := rfl
  have hyn : (rooted g a (-1)).nodes = g.nodes := rfl
  generalize rooted g a (rt g b) = x at *
  generalize rooted g a (-1) = y at *
  have hxs := right_sm hxr (by rw [hxn]; omega)
  have hys := right_sm hyr (by rw [hyn]; omega)
  have fa := root_at hal
  have fb := root_at hbl
  have fxa := root_at (g := x) (a := a) (by omega)
  have fya := root_at (g := y) (a := a) (by omega)
  rw [hxa] at fxa
  rw [hya] at fya
  have iya : isRt y a = true := isRt_iff.2 ⟨by omega, by omega⟩
  have iyb : isRt y b = true := isRt_iff.2 ⟨by omega, by omega⟩
  have ixa : isRt x a = true := isRt_iff.2 ⟨by omega, by omega⟩
  have ixb : isRt x b = true := isRt_iff.2 ⟨by omega, by omega⟩
  simp
  refine callW_of hpa (by simp) ?_
  simp
  refine callW_of hpb (by simp) ?_
  simp
  refine callW_of h1 (by simp [acV]) ?_
  simp [doV]
  refine callW_of h2 (by simp [acV]) ?_
  have gxa : ∀ h, x.roots[a]'h = rt g b := fun h => by
    have := List.getElem?_eq_getElem h
    rw [fxa] at this
    exact (Option.some.inj this).symm
  have gya : ∀ h, y.roots[a]'h = -1 := fun h => by
    have := List.getElem?_eq_getElem h
    rw [fya] at this
    exact (Option.some.inj this).symm
  have ggb : ∀ h, g.roots[b]'h = rt g b := fun h => by
    have := List.getElem?_eq_getElem h
    rw [fb] at this
    exact (Option.some.inj this).symm
  simp [doV, hxl, hyl, fa, fb, fxa, fya, hal, hbl, gxa, gya, ggb]
  refine wpS_loop (fun t => ∃ (k : Nat), 2 ≤ k ∧ k ≤ 6 ∧ ∃ x17, t = [.v (.sl (l.map ndV)), .v (.sl (roots.map vi)), .v (vi r), .v (vi s), .v (vi i), .v (vu v), .v (.bool false), .v (.bool true),
      .m [.sl (g.nodes.map ndV), .sl (g.roots.map vi)], .v (vi a), .v (vi b), .m [.sl (x.nodes.map ndV), .sl (x.roots.map vi)], .v (vu 0), .v (vi 0), .m [.sl (y.nodes.map ndV), .sl (y.roots.map vi)], .v (vu 0), .v (vi 0), x17, .v (vi k)])
    (fun t => match get t 18 with | .v (.int _ k) => 6 - k.toNat | _ => 0) ?_ ?_
  · exact ⟨2, by omega, by omega, _, by simp; rfl⟩
  · rintro t ⟨k, hk2, hk6, x17, rfl⟩
    have hw := wrap_i ((k : Int) + 1) (by omega) (by omega)
    have hw9 := wrap_i (pick i 9 - 4) (by omega) (by omega)
    by_cases hk5 : k ≤ 5
    · have hd := dov (do_none (i := pick i 9 - 4) (z := 0) (p := 0) (v := v) hyr (k := k) (by omega) iyb iya hya) hys
      simp [show (k : Int) ≤ 5 by omega]
      refine callW_of hp9 (by simp) ?_
      simp [hw9]
      refine callW_of hd (by simp [acV]) ?_
      simp [doV, hw]
      exact ⟨⟨k + 1, by omega, by omega, by simp⟩, by omega⟩
    · simp [show ¬ (k : Int) ≤ 5 by omega]
      refine callW_of hp4 (by simp) ?_
      simp
      have ix0 : isRt x 0 = true := isRt_iff.2 ⟨by omega, by omega⟩
      rcases slot_cases hxr ixa with hx0 | ⟨xx, n, hxx, hnx, hxx2⟩
      · have hd := dov (do_none (k := 5) (a := 0) (i := pick i 4) (z := 0) (p := 0) (v := v) hxr (by omega) ix0 ixa hx0) hxs
        refine callW_of hd (by simp [acV]) ?_
        simp [doV]
      · by_cases hin : pick i 4 < (n.data.length : Int)
        · have hd := dov (do_set (a := 0) (z := 0) (p := 0) (v := v) hxr ixa hxx hnx hk.1 hin) hxs
          have hno := (right_iff.1 hxr).2.1 n (List.mem_of_getElem? hnx)
          have hzr := right_turned hxr (i := (xx : Int)) (m := ⟨n.ptrs, n.data.set (pick i 4).toNat v⟩) (by simpa using hno.1) hno.2
          have izb : isRt (turned x (xx : Int) ⟨n.ptrs, n.data.set (pick i 4).toNat v⟩) b = true := ixb
          have hzb : rt (turned x (xx : Int) ⟨n.ptrs, n.data.set (pick i 4).toNat v⟩) b = (xx : Int) := by rw [rt_turned, hxb, ← hxa, hxx]
          have hzn : (turned x (xx : Int) ⟨n.ptrs, n.data.set (pick i 4).toNat v⟩).nodes[xx]? = some ⟨n.ptrs, n.data.set (pick i 4).toNat v⟩ := by
            simp [turned, hxx2]
          have hzl : (turned x (xx : Int) ⟨n.ptrs, n.data.set (pick i 4).toNat v⟩).nodes.length = x.nodes.length := by simp [turned]
          have hv : ((n.data.set (pick i 4).toNat v)[(pick i 4).toNat]?).getD 0 = v := by
            have : (pick i 4).toNat < n.data.length := by omega
            simp [this]
          generalize turned x (xx : Int) ⟨n.ptrs, n.data.set (pick i 4).toNat v⟩ = z at *
          have hzs := right_sm hzr (by rw [hzl, hxn]; omega)
          have hd2 := dov (do_get (a := 0) (z := 0) (p := 0) (v := 0) hzr izb hzb hzn hk.1 (by simpa using hin)) hzs
          simp only [hv] at hd2
          refine callW_of hd (by simp [acV]) ?_
          simp [doV]
          refine callW_of hp4 (by simp) ?_
          simp
          refine callW_of hd2 (by simp [acV]) ?_
          simp [doV]
        · have hd := dov (do_set_arg (a := 0) (z := 0) (p := 0) (v := v) hxr ixa hxx hnx (.inr (by omega : (n.data.length : Int) ≤ pick i 4))) hxs
          refine callW_of hd (by simp [acV]) ?_
          simp [doV]
end Vm
