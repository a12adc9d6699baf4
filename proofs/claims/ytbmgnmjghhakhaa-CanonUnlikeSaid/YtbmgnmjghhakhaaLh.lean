/-
  The law CanonUnlike, as a contract of the code.
-/
import Derived.Test.YtbmgnmjghhakhaaLg
namespace Vm
open Go Go.Proofs
set_option linter.unusedSimpArgs false
set_option linter.unusedVariables false
set_option maxRecDepth 100000
set_option maxHeartbeats 1000000
theorem orderL_congr {g h : Gr} (ho : ∀ x, outs h x = outs g x) : ∀ (F i : Nat) (l : List Int), orderL h F i l = orderL g F i l := by
  intro F
  induction F with
  | zero => intro i l; rfl
  | succ F ih =>
    intro i l
    simp only [orderL]
    cases l[i]? with
    | none => rfl
    | some x =>
      have := ho x
      simp only [outs] at this
      simp only [this, ih]
theorem alike_self {g : Gr} (hg : right g = true) : alike g g = true := by simp [alike, hg]
theorem unlike_set {g : Gr} (hr : right g = true) {a k x : Nat} {n : Nd} {v w : Int} (ha : isRt g a = true) (hx : rt g a = (x : Int)) (hn : g.nodes[x]? = some n) (hk : n.data[k]? = some w) :
    alike g (turned g (x : Int) ⟨n.ptrs, n.data.set k v⟩) = decide (v = w) := by
  have hno := (right_iff.1 hr).2.1 n (List.mem_of_getElem? hn)
  have hxl := (List.getElem?_eq_some_iff.1 hn).1
  have hok : right (turned g (x : Int) ⟨n.ptrs, n.data.set k v⟩) = true := right_turned hr (by simpa using hno.1) hno.2
  by_cases hvw : v = w
  · subst hvw
    have hset : n.data.set k v = n.data := by
      obtain ⟨h1, h2⟩ := List.getElem?_eq_some_iff.1 hk
      rw [← h2]; exact List.set_getElem_self h1
    have : turned g (x : Int) ⟨n.ptrs, n.data.set k v⟩ = g := by
      rw [hset]
      simp only [turned, Int.toNat_natCast]
      obtain ⟨h1, h2⟩ := List.getElem?_eq_some_iff.1 hn
      have h3 : (⟨n.ptrs, n.data⟩ : Nd) = g.nodes[x] := h2.symm
      rw [h3, List.set_getElem_self h1]
    rw [this, alike_self hr]
    simp
  · have hne : canon g ≠ canon (turned g (x : Int) ⟨n.ptrs, n.data.set k v⟩) := by
      intro he
      have ho : ∀ y, outs (turned g (x : Int) ⟨n.ptrs, n.data.set k v⟩) y = outs g y := by
        intro y
        simp only [outs, turned, Int.toNat_natCast, List.getElem?_set]
        split
        · rename_i h
          rw [← h, hn]
          rfl
        · rfl
      have hord : order (turned g (x : Int) ⟨n.ptrs, n.data.set k v⟩) = order g := by
        unfold order
        rw [orderL_congr ho]
        simp [turned]
      have hlive : (x : Int) ∈ order g := by
        obtain ⟨b, hbe, hbl, hbr, -, -⟩ := rt_in hr ha
        refine live_root hr ?_ (by omega)
        rw [← hx, hbr]
        exact List.getElem_mem hbl
      obtain ⟨h0, h1, h2⟩ := at0_get hlive
      have hnd := congrArg (fun c => (c.nodes[(at0 (order g) x).toNat]?).map (·.data)) he
      simp only [canon, hord, List.getElem?_map, h2, Option.map_some, canonNd, Int.toNat_natCast, hn, Option.getD_some] at hnd
      simp only [turned, Int.toNat_natCast, List.getElem?_set_self hxl, Option.getD_some, Option.some.injEq] at hnd
      have hkk := congrArg (fun d => d[k]?) hnd
      have hkl := (List.getElem?_eq_some_iff.1 hk).1
      simp only [hk, List.getElem?_set_self hkl, Option.some.injEq] at hkk
      exact hvw hkk.symm
    simp [alike, hr, hok, hne, hvw]
theorem unlike_drop {g : Gr} (hr : right g = true) {a : Nat} (ha : isRt g a = true) : alike g (rooted g a (-1)) = decide (rt g a = -1) := by
  have hok := right_rooted hr (r := a) (x := -1) (by omega)
  obtain ⟨h1, h2⟩ := isRt_iff.1 ha
  have hal : a < g.roots.length := by omega
  have hra := root_at hal
  by_cases h : rt g a = -1
  · have : rooted g a (-1) = g := by
      simp only [rooted, Int.toNat_natCast]
      rw [← h]
      have : rt g a = g.roots[a] := by simp [rt, hal]
      rw [this, List.set_getElem_self hal]
    rw [this, alike_self hr]
    simp [h]
  · have hne : canon g ≠ canon (rooted g a (-1)) := by
      intro he
      have hro := congrArg (fun c => c.roots[a]?) he
      simp only [canon, movedL, List.getElem?_map, hra, Option.map_some, rooted, Int.toNat_natCast, List.getElem?_set_self hal] at hro
      have := rt_range hr ha
      rw [if_pos (by omega), if_neg (by omega)] at hro
      have hlive : rt g a ∈ order g := live_root hr (List.mem_of_getElem? hra) (by omega)
      obtain ⟨h0, _, _⟩ := at0_get hlive
      simp at hro
      omega
    simp [alike, hr, hok, hne, h]
theorem alike_dead {g : Gr} (hr : right g = true) {x : Nat} (hx : (x : Int) ∉ order g) (m : Nd) (hm : m.ptrs = []) (hd : m.data.length ≤ 255) : right ⟨g.nodes.set x m, g.roots⟩ = true ∧ alike g ⟨g.nodes.set x m, g.roots⟩ = true := by
  have hok : right ⟨g.nodes.set x m, g.roots⟩ = true := right_turned (i := (x : Int)) hr (by rw [hm]; simpa using hd) (by simp [hm])
  refine ⟨hok, alike_iso (S := fun y => y ∈ order g) (f := id) hr hok ⟨rfl, by simp, ?_, fun x y _ _ h => h, ?_⟩⟩
  · intro y hy
    by_cases h0 : 0 ≤ y
    · exact .inr (live_root hr hy h0)
    · have := (right_roots hr y hy).1
      exact .inl (by omega)
  · intro y hy
    obtain ⟨y0, y1⟩ := (order_good hr).2 y hy
    have hyl : y.toNat < g.nodes.length := by omega
    have hne : x ≠ y.toNat := fun e => hx (by rw [show (x : Int) = y by omega]; exact hy)
    refine ⟨y0, y0, _, List.getElem?_eq_getElem hyl, by simp [List.getElem?_set, hne, hyl], fun p hp => ?_⟩
    have ho : p ∈ outs g y := by simpa [outs, hyl] using hp
    by_cases h0 : 0 ≤ p
    · exact .inr (live_out hr hy ho h0)
    · have := (good_outs hr y p ho).1
      exact .inl (by omega)
theorem law9Unlike {l : List Nd} {roots : List Int} {r i v : Int} (hl : ∀ x ∈ l, ∀ p ∈ x.ptrs, Fit p) (hr : ∀ p ∈ roots, Fit p) (hr' : Fit r) (hi' : Fit i) :
    VC Try.prog 14 false [.sl (l.map ndV), .sl (roots.map vi), vi r, vi i, vu v] (.bool true) := by
  refine vc_of_wp Try.func14 follows (by kernel_rfl) c14 rfl ?_
  simp [p14]
  refine callW_of awake9_vc (by simp) ?_
  simp
  refine callW_of (Graph_vc hl hr) (by simp) ?_
  have hgr := mkG_right l roots
  have hgs := mkG_sm l roots
  obtain ⟨hb1, hb2, hb3⟩ := mkG_bounds l roots
  have hb4 := mkG_roots l roots
  have hb5 := mkG_nodes l roots
  generalize mkG l roots = g at *
  have ha := pick_lt (c := r) (n := g.roots.length) (by omega)
  have hpa := pick9_vc (n := g.roots.length) hr' (by omega)
  have hp4 := pick9_vc (n := 4) hi' (by omega)
  have hk := pick_lt (c := i) (n := 4) (by omega)
  obtain ⟨a, hae⟩ := Int.eq_ofNat_of_zero_le ha.1
  rw [hae] at hpa
  obtain ⟨k, hke⟩ := Int.eq_ofNat_of_zero_le hk.1
  rw [hke] at hp4
  have hal : a < g.roots.length := by omega
  have ia : isRt g a = true := isRt_iff.2 ⟨by omega, by omega⟩
  have i0 : isRt g 0 = true := isRt_iff.2 ⟨by omega, by omega⟩
  have fa := root_at hal
  have dd := dov (do_drop (b := 0) (i := 0) (z := 0) (p := 0) (v := 0) hgr ia) hgs
  have hud := unlike_drop hgr ia
  have hyr := right_rooted hgr (r := a) (x := -1) (by omega)
  have hyn : (rooted g a (-1)).nodes = g.nodes := rfl
  generalize rooted g a (-1) = y at *
  have hys := right_sm hyr (by rw [hyn]; omega)
  have had := Alike_vc hgs hys
  rw [hud] at had
  have hor := Order_vc hgs
  rw [show orderR g = order g from if_pos hgr] at hor
  simp
  refine callW_of hpa (by simp) ?_
  simp
  refine callW_of hp4 (by simp) ?_
  simp
  rcases slot_cases hgr ia with h0 | ⟨x, n, hx, hnx, hxl⟩
  case' inl =>
    have d1 := dov (do_none (k := 3) (a := 0) (i := k) (z := 0) (p := 0) (v := 0) hgr (by omega) i0 ia h0) hgs
    have d2 := dov (do_none (k := 5) (a := 0) (i := k) (z := 0) (p := 0) (v := v) hgr (by omega) i0 ia h0) hgs
    refine callW_of d1 (by simp [acV]) ?_
    simp [doV]
    refine callW_of d2 (by simp [acV]) ?_
    simp [doV]
  case' inr =>
    have hno := (right_iff.1 hgr).2.1 n (List.mem_of_getElem? hnx)
    by_cases hd : k < n.data.length
  case' pos =>
    have hw : n.data[k]? = some n.data[k] := List.getElem?_eq_getElem hd
    generalize n.data[k] = w at *
    have d1 := dov (do_get (a := 0) (z := 0) (p := 0) (v := 0) (i := k) hgr ia hx hnx (by omega) (by omega)) hgs
    have d2 := dov (do_set (a := 0) (z := 0) (p := 0) (v := v) (i := k) hgr ia hx hnx (by omega) (by omega)) hgs
    simp only [Int.toNat_natCast, hw, Option.getD_some] at d1 d2
    have hul := unlike_set (v := v) hgr ia hx hnx hw
    have hxr := right_turned hgr (i := (x : Int)) (m := ⟨n.ptrs, n.data.set k v⟩) (by simpa using hno.1) hno.2
    have hxn : (turned g (x : Int) ⟨n.ptrs, n.data.set k v⟩).nodes.length = g.nodes.length := by simp [turned]
    generalize turned g (x : Int) ⟨n.ptrs, n.data.set k v⟩ = z at *
    have hal2 := Alike_vc hgs (right_sm hxr (by rw [hxn]; omega))
    rw [hul] at hal2
    refine callW_of d1 (by simp [acV]) ?_
    simp [doV]
    refine callW_of d2 (by simp [acV]) ?_
    simp [doV]
    refine callW_of hal2 (by simp) ?_
    simp
  case' neg =>
    have d1 := dov (show doR g ⟨3, 0, a, k, 0, 0, 0⟩ = (0, noGr, 1) by simp [doR, hgr, namesR, ia, slotR, hx, hnx, show n.data.length ≤ k by omega]) hgs
    have d2 := dov (do_set_arg (a := 0) (z := 0) (p := 0) (v := v) (i := k) hgr ia hx hnx (.inr (by omega))) hgs
    refine callW_of d1 (by simp [acV]) ?_
    simp [doV]
    refine callW_of d2 (by simp [acV]) ?_
    simp [doV]
  all_goals
    refine callW_of dd (by simp [acV]) ?_
    simp [doV]
    refine callW_of had (by simp) ?_
    simp [fa, at_of fa]
    refine callW_of hor (by simp) ?_
    simp
    refine wpS_for0 22 g.nodes.length (fun _ => True) (by simp) (by simp) trivial ?_
    rintro m hm -
    have hwm := wrap_i ((m : Int) + 1) (by omega) (by omega)
    by_cases hml : m < g.nodes.length
    · have hgn : g.nodes[m]? = some g.nodes[m] := List.getElem?_eq_getElem hml
      generalize g.nodes[m] = nd at *
      simp [hml]
      have hol := (order_good hgr).len
      generalize hord : order g = ord at *
      refine wpS_for 25 ord.length (fun j => [(24, .v (.bool (decide ((m : Int) ∈ ord.take j)))), (25, .v (vi j))]) (fun _ => True) (by simp) (fun i => by simp) trivial ?_
      rintro j hj -
      have hwj := wrap_i ((j : Int) + 1) (by omega) (by omega)
      by_cases hjl : j < ord.length
      · have hoj : ord[j]? = some ord[j] := List.getElem?_eq_getElem hjl
        generalize ord[j] = o at *
        have htk : ord.take (j + 1) = ord.take j ++ [o] := by rw [List.take_add_one, hoj]; rfl
        simp [hjl, hoj, at_of hoj, hwj, htk]
        by_cases hin : (m : Int) ∈ ord.take j
        · simp [hin]
        · simp [hin, eq_comm]
      · have : j = ord.length := by omega
        subst this
        simp
        by_cases hin : (m : Int) ∈ ord
        · simp [hin, hwm, hml]
        · have hlim : g.nodes.length ≤ lim := by simp [lim]; omega
          obtain ⟨hzr, hza⟩ := alike_dead hgr (by rw [hord]; exact hin) ⟨[], [v, v]⟩ rfl (by simp)
          have hal3 := Alike_vc hgs (right_sm hzr (by simp; omega))
          rw [hza] at hal3
          have hput : ∀ q : Nd, (ndV q).put 0 [V.sl [], V.sl [V.int IntKind.u64 v, V.int IntKind.u64 v]] = ndV ⟨[], [v, v]⟩ := fun q => rfl
          have hset : (g.nodes.map ndV).set m (ndV ⟨[], [v, v]⟩) = (g.nodes.set m ⟨[], [v, v]⟩).map ndV := List.map_set.symm
          simp [hin, hlim, hml, hgn]
          simp only [hput, hset]
          refine callW_of hal3 (fun _ => rfl) ?_
          simp [hwm, hml]
    · have : m = g.nodes.length := by omega
      subst this
      simp
end Vm
