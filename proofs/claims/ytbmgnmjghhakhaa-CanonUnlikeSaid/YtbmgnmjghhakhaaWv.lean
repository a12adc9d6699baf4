/-
  The law GraphSlots, as a contract of the code.
-/
import Derived.Test.YtbmgnmjghhakhaaWt
import Derived.Test.YtbmgnmjghhakhaaWu
namespace Vm
open Go Go.Proofs
set_option linter.unusedSimpArgs false
set_option linter.unusedVariables false
set_option maxRecDepth 100000
set_option maxHeartbeats 1000000
theorem at_of {α : Type} {l : List α} {i : Nat} {x : α} (h : l[i]? = some x) : ∀ hl : i < l.length, l[i]'hl = x := fun hl => by
  rw [List.getElem?_eq_getElem hl] at h
  exact Option.some.inj h
theorem law8Slots {l : List Nd} {roots : List Int} {r s i v : Int} (hl : ∀ x ∈ l, ∀ p ∈ x.ptrs, Fit p) (hr : ∀ p ∈ roots, Fit p) (hr' : Fit r) (hs' : Fit s) (hi' : Fit i) : VC Try.prog 8 false [.sl (l.map ndV), .sl (roots.map vi), vi r, vi s, vi i, vu v] (.bool true) := by
  refine vc_of_wp Try.func8 follows (by kernel_rfl) c8 rfl ?_
  simp [p8]
  refine callW_of awake8_vc (by simp) ?_
  simp
  refine callW_of (Graph_vc hl hr) (by simp) ?_
  have hgr := mkG_right l roots
  have hgs := mkG_sm l roots
  obtain ⟨hb1, hb2, hb3⟩ := mkG_bounds l roots
  have hb4 := mkG_roots l roots
  have hb5 := mkG_nodes l roots
  generalize mkG l roots = g at *
  have ha := pick_lt (c := r) (n := g.roots.length) (by omega)
  have hb := pick_lt (c := s) (n := g.roots.length) (by omega)
  have hpa := pick_vc (n := g.roots.length) hr' (by omega)
  have hpb := pick_vc (n := g.roots.length) hs' (by omega)
  have hp4 := pick_vc (n := 4) hi' (by omega)
  have hk := pick_lt (c := i) (n := 4) (by omega)
  have hp3 := pick_vc (n := 3) hi' (by omega)
  have hk3 := pick_lt (c := i) (n := 3) (by omega)
  obtain ⟨a, hae⟩ := Int.eq_ofNat_of_zero_le ha.1
  obtain ⟨b, hbe⟩ := Int.eq_ofNat_of_zero_le hb.1
  rw [hae] at hpa
  rw [hbe] at hpb
  have hal : a < g.roots.length := by omega
  have hbl : b < g.roots.length := by omega
  have ia : isRt g a = true := isRt_iff.2 ⟨by omega, by omega⟩
  have ib : isRt g b = true := isRt_iff.2 ⟨by omega, by omega⟩
  simp
  refine callW_of hpa (by simp) ?_
  simp
  refine callW_of hpb (by simp) ?_
  simp
  refine callW_of hp4 (by simp) ?_
  simp
  obtain ⟨q, hqe, hq1, hq3⟩ : ∃ q, 1 + pick i 3 = q ∧ 1 ≤ q ∧ q ≤ 3 := ⟨_, rfl, by omega, by omega⟩
  have hw0 : IntKind.i64.wrap (1 + pick i 3) = q := by rw [wrap_i _ (by omega) (by omega)]; exact hqe
  have hwd := wrap_i (4 - q) (by omega) (by omega)
  have hpd := pick_vc (n := 4 - q) hi' (by omega)
  have hpp := pick_vc (n := q) hi' (by omega)
  have hkd := pick_lt (c := i) (n := 4 - q) (by omega)
  have hkp := pick_lt (c := i) (n := q) (by omega)
  have hsh : shapeOk 4 q = true := shapeOk_iff.2 ⟨by omega, by omega, by omega, by omega⟩
  have hnew := dov (do_newGr (b := 0) (i := 0) (v := 0) hgr ia hsh) hgs
  have hnr : right (newGr g a 4 q) = true := right_new hgr hsh a
  have hns := right_sm hnr (by simp [newGr]; omega)
  have ina : isRt (newGr g a 4 q) a = true := by rw [newGr_isRt]; exact ia
  have hget := dov (do_get (a := 0) (z := 0) (p := 0) (v := 0) hnr ina (newGr_rt hal) newGr_at hkd.1 (by simp [freshNd]; omega)) hns
  have hload := dov (do_load (z := 0) (p := 0) (v := 0) hnr ina ina (newGr_rt hal) newGr_at hkp.1 (by simp [freshNd]; omega)) hns
  have hg0 : ((freshNd 4 q).data[(pick i (4 - q)).toNat]?).getD 0 = 0 := by
    have : (pick i (4 - q)).toNat < (4 - q).toNat := by omega
    simp only [freshNd, List.getElem?_replicate, this, if_true, Option.getD_some]
  have hl0 : ((freshNd 4 q).ptrs[(pick i q).toNat]?).getD 0 = -1 := by
    have : (pick i q).toNat < q.toNat := by omega
    simp only [freshNd, List.getElem?_replicate, this, if_true, Option.getD_some]
  rw [hg0] at hget
  rw [hl0] at hload
  have hnl : (newGr g a 4 q).roots.length = g.roots.length := by simp [newGr]
  have hnn : (newGr g a 4 q).nodes.length = g.nodes.length + 1 := by simp [newGr]
  have hur : rt (rooted (newGr g a 4 q) a (-1)) a = -1 := rt_rooted_same ina
  have hul : (rooted (newGr g a 4 q) a (-1)).roots.length = g.roots.length := by simp [rooted, hnl]
  generalize rooted (newGr g a 4 q) a (-1) = u at *
  generalize newGr g a 4 q = z at *
  have fu := root_at (g := u) (a := a) (by omega)
  have i0 : isRt g 0 = true := isRt_iff.2 ⟨by omega, by omega⟩
  have fg := root_at hal
  have gua : ∀ h, u.roots[a]'h = -1 := fun h => by
    have := List.getElem?_eq_getElem h
    rw [fu, hur] at this
    exact (Option.some.inj this).symm
  have gga : ∀ h, g.roots[a]'h = rt g a := at_of fg
  have hwn := wrap_i ((g.nodes.length : Int) + 1) (by omega) (by omega)
  -- the end is the same in each case
  rcases slot_cases hgr ib with h0 | ⟨x, n, hx, hnx, hxl⟩
  · have d1 := dov (do_none (k := 5) (a := 0) (i := pick i 4) (z := 0) (p := 0) (v := v) hgr (by omega) i0 ib h0) hgs
    have d2 := dov (do_none (k := 4) (a := a) (i := pick i 4) (z := 0) (p := 0) (v := 0) hgr (by omega) ia ib h0) hgs
    refine callW_of d1 (by simp [acV]) ?_
    simp [doV]
    refine callW_of d2 (by simp [acV]) ?_
    simp [doV]
    refine callW_of hp3 (by simp) ?_
    simp [hw0]
    refine callW_of hnew (by simp [acV]) ?_
    simp [doV, hwd]
    refine callW_of hpd (by simp) ?_
    simp
    refine callW_of hget (by simp [acV]) ?_
    simp [doV]
    refine callW_of hpp (by simp) ?_
    simp
    refine callW_of hload (by simp [acV]) ?_
    simp [doV, hul, hnn, gua, fu, hur, hal, hwn]
  · have hno := (right_iff.1 hgr).2.1 n (List.mem_of_getElem? hnx)
    by_cases hd : pick i 4 < (n.data.length : Int)
    case' pos =>
      have d1 := dov (do_set (a := 0) (z := 0) (p := 0) (v := v) hgr ib hx hnx hk.1 hd) hgs
      have hxr := right_turned hgr (i := (x : Int)) (m := ⟨n.ptrs, n.data.set (pick i 4).toNat v⟩) (by simpa using hno.1) hno.2
      have hxn : (turned g (x : Int) ⟨n.ptrs, n.data.set (pick i 4).toNat v⟩).nodes[x]? = some ⟨n.ptrs, n.data.set (pick i 4).toNat v⟩ := by
        simp [turned, hxl]
      have hxln : (turned g (x : Int) ⟨n.ptrs, n.data.set (pick i 4).toNat v⟩).nodes.length = g.nodes.length := by simp [turned]
      have hxa : rt (turned g (x : Int) ⟨n.ptrs, n.data.set (pick i 4).toNat v⟩) b = (x : Int) := by rw [rt_turned]; exact hx
      have jxa : isRt (turned g (x : Int) ⟨n.ptrs, n.data.set (pick i 4).toNat v⟩) a = true := ia
      have jxb : isRt (turned g (x : Int) ⟨n.ptrs, n.data.set (pick i 4).toNat v⟩) b = true := ib
      have hv : ((n.data.set (pick i 4).toNat v)[(pick i 4).toNat]?).getD 0 = v := by
        have : (pick i 4).toNat < n.data.length := by omega
        simp [this]
      generalize turned g (x : Int) ⟨n.ptrs, n.data.set (pick i 4).toNat v⟩ = y at *
      have hys := right_sm hxr (by omega)
      have d3 := dov (do_assign (i := 0) (z := 0) (p := 0) (v := 0) hxr jxa jxb) hys
      have hzr := right_rooted hxr (r := a) (rt_range hxr jxb)
      have jza : isRt (rooted y a (rt y b)) a = true := by rw [isRt_rooted]; exact jxa
      have hza : rt (rooted y a (rt y b)) a = (x : Int) := by rw [rt_rooted_same jxa, hxa]
      have hzn : (rooted y a (rt y b)).nodes[x]? = some ⟨n.ptrs, n.data.set (pick i 4).toNat v⟩ := hxn
      have hzl : (rooted y a (rt y b)).nodes.length = g.nodes.length := hxln
      generalize rooted y a (rt y b) = t at *
      have hts := right_sm hzr (by omega)
      have d4 := dov (do_get (a := 0) (z := 0) (p := 0) (v := 0) hzr jza hza hzn hk.1 (by simpa using hd)) hts
      simp only [hv] at d4
      refine callW_of d1 (by simp [acV]) ?_
      simp [doV]
      refine callW_of d3 (by simp [acV]) ?_
      simp [doV]
      refine callW_of d4 (by simp [acV]) ?_
      simp [doV]
    case' neg =>
      have d1 := dov (do_set_arg (a := 0) (z := 0) (p := 0) (v := v) hgr ib hx hnx (.inr (by omega : (n.data.length : Int) ≤ pick i 4))) hgs
      refine callW_of d1 (by simp [acV]) ?_
      simp [doV]
    all_goals
      clear d1
      by_cases hp : pick i 4 < (n.ptrs.length : Int)
      case' pos =>
        have d1 := dov (do_store (z := 0) (p := 0) (v := 0) hgr ia ib hx hnx hk.1 hp) hgs
        have hxr := right_turned hgr (i := (x : Int)) (m := ⟨n.ptrs.set (pick i 4).toNat (rt g a), n.data⟩) (by simpa using hno.1) (fun y hy => by
          rcases List.mem_or_eq_of_mem_set hy with h | rfl
          · exact hno.2 y h
          · exact rt_range hgr ia)
        have hxn : (turned g (x : Int) ⟨n.ptrs.set (pick i 4).toNat (rt g a), n.data⟩).nodes[x]? = some ⟨n.ptrs.set (pick i 4).toNat (rt g a), n.data⟩ := by
          simp [turned, hxl]
        have hxln : (turned g (x : Int) ⟨n.ptrs.set (pick i 4).toNat (rt g a), n.data⟩).nodes.length = g.nodes.length := by simp [turned]
        have hxrl : (turned g (x : Int) ⟨n.ptrs.set (pick i 4).toNat (rt g a), n.data⟩).roots.length = g.roots.length := rfl
        have hxa : rt (turned g (x : Int) ⟨n.ptrs.set (pick i 4).toNat (rt g a), n.data⟩) b = (x : Int) := by rw [rt_turned]; exact hx
        have jxa : isRt (turned g (x : Int) ⟨n.ptrs.set (pick i 4).toNat (rt g a), n.data⟩) a = true := ia
        have jxb : isRt (turned g (x : Int) ⟨n.ptrs.set (pick i 4).toNat (rt g a), n.data⟩) b = true := ib
        have hv : ((n.ptrs.set (pick i 4).toNat (rt g a))[(pick i 4).toNat]?).getD 0 = rt g a := by
          have : (pick i 4).toNat < n.ptrs.length := by omega
          simp [this]
        generalize turned g (x : Int) ⟨n.ptrs.set (pick i 4).toNat (rt g a), n.data⟩ = y at *
        have hys := right_sm hxr (by omega)
        have d3 := dov (do_load (z := 0) (p := 0) (v := 0) hxr jxa jxb hxa hxn hk.1 (by simpa using hp)) hys
        simp only [hv] at d3
        have hta : rt (rooted y a (rt g a)) a = rt g a := rt_rooted_same jxa
        have htl : (rooted y a (rt g a)).roots.length = g.roots.length := by simp [rooted, hxrl]
        generalize rooted y a (rt g a) = t at *
        have ft := root_at (g := t) (a := a) (by omega)
        rw [hta] at ft
        refine callW_of d1 (by simp [acV]) ?_
        simp [doV]
        refine callW_of d3 (by simp [acV]) ?_
        simp [doV, htl, ft, at_of ft, gga, fg, hal]
      case' neg =>
        have d1 := dov (do_store_arg (z := 0) (p := 0) (v := 0) hgr ia ib hx hnx (.inr (by omega : (n.ptrs.length : Int) ≤ pick i 4))) hgs
        refine callW_of d1 (by simp [acV]) ?_
        simp [doV]
      all_goals
        refine callW_of hp3 (by simp) ?_
        simp [hw0]
        refine callW_of hnew (by simp [acV]) ?_
        simp [doV, hwd]
        refine callW_of hpd (by simp) ?_
        simp
        refine callW_of hget (by simp [acV]) ?_
        simp [doV]
        refine callW_of hpp (by simp) ?_
        simp
        refine callW_of hload (by simp [acV]) ?_
        simp [doV, hul, hnn, gua, fu, hur, hal, hwn]
end Vm
