/-
  The law GraphRuns, as a contract of the code.
-/
import Derived.Test.YtbmgnmjghhakhaaLb
import Derived.Test.YtbmgnmjghhakhaaGl
namespace Vm
open Go Go.Proofs
set_option linter.unusedSimpArgs false
set_option linter.unusedVariables false
set_option maxRecDepth 100000
set_option maxHeartbeats 1000000
/-- the scalar k of the node of the root b is v -/
structure Holds (g : Gr) (b k : Nat) (v : Int) (nb : Nat) (m : Nd) : Prop where
  ok : right g = true
  isr : isRt g b = true
  at_ : rt g b = (nb : Int)
  node : g.nodes[nb]? = some m
  dat : m.data[k]? = some v
theorem holds_step {g y : Gr} {b k nb : Nat} {v w : Int} {m : Nd} {a : Ac} (hh : Holds g b k v nb m) (hd : Did g a (w, y, 0)) (h5 : a.kind ≠ 5) (hb : a.kind = 4 ∨ a.r ≠ b) : ∃ m, Holds y b k v nb m := by
  obtain ⟨hr, hrt, hat, hn, hdat⟩ := hh
  have hnl : nb < g.nodes.length := (List.getElem?_eq_some_iff.1 hn).1
  obtain ⟨hb0, hb1⟩ := isRt_iff.1 hrt
  have hbl : b < g.roots.length := by omega
  cases hd with
  | fresh r hk ha hs hre =>
    have hne : r ≠ b := by omega
    refine ⟨m, right_new hr hs r, by rw [newGr_isRt]; exact hrt, ?_, ?_, hdat⟩
    · rw [← hat]
      simp [rt, newGr, List.getElem?_set, hne]
    · simp only [newGr]
      rw [List.getElem?_append_left hnl, hn]
  | rooted y hk ha hy =>
    have hne : a.r ≠ (b : Int) := by omega
    exact ⟨m, right_rooted hr hy, by rw [isRt_rooted]; exact hrt, by rw [rt_rooted_ne ha hrt hne]; exact hat, hn, hdat⟩
  | got w hk => exact ⟨m, hr, hrt, hat, hn, hdat⟩
  | stored x j n hk ha hs hx hnx hj hl =>
    have hno := (right_iff.1 hr).2.1 n (List.mem_of_getElem? hnx)
    have hok : right (turned g (x : Int) ⟨n.ptrs.set j (rt g a.r), n.data⟩) = true := right_turned hr (by simpa using hno.1) fun z hz => by
      rcases List.mem_or_eq_of_mem_set hz with h | rfl
      · exact hno.2 z h
      · exact rt_range hr ha
    by_cases hxn : x = nb
    · subst hxn
      rw [hn] at hnx
      cases hnx
      exact ⟨⟨m.ptrs.set j (rt g a.r), m.data⟩, hok, hrt, by rw [rt_turned]; exact hat, by simp [turned, hnl], hdat⟩
    · exact ⟨m, hok, hrt, by rw [rt_turned]; exact hat, by simp [turned, List.getElem?_set, hxn, hn], hdat⟩
  | put x j n hk => exact (h5 hk).elim
theorem law8Runs {l : List Nd} {roots : List Int} {s i v : Int} {acts : List (List Int)} (hl : ∀ x ∈ l, ∀ p ∈ x.ptrs, Fit p) (hr : ∀ p ∈ roots, Fit p) (hs' : Fit s) (hi' : Fit i) (hacts : ∀ a ∈ acts, a.length = 5 ∧ ∀ p ∈ a, Fit p) :
    VC Try.prog 11 false [.sl (l.map ndV), .sl (roots.map vi), vi s, vi i, vu v, .sl (acts.map fun a => .agg (a.map vi))] (.bool true) := by
  refine vc_of_wp Try.func11 follows (by kernel_rfl) c11 rfl ?_
  simp [p11]
  refine callW_of awake8_vc (by simp) ?_
  simp
  refine callW_of (Graph_vc hl hr) (by simp) ?_
  have hgr := mkG_right l roots
  have hgs := mkG_sm l roots
  obtain ⟨hb1, hb2, hb3⟩ := mkG_bounds l roots
  have hb4 := mkG_roots l roots
  have hb5 := mkG_nodes l roots
  generalize mkG l roots = g at *
  have hb := pick_lt (c := s) (n := g.roots.length) (by omega)
  have hpb := pick_vc (n := g.roots.length) hs' (by omega)
  have hp4 := pick_vc (n := 4) hi' (by omega)
  have hk := pick_lt (c := i) (n := 4) (by omega)
  obtain ⟨b, hbe⟩ := Int.eq_ofNat_of_zero_le hb.1
  rw [hbe] at hpb
  obtain ⟨k, hke⟩ := Int.eq_ofNat_of_zero_le hk.1
  rw [hke] at hp4
  have hbl : b < g.roots.length := by omega
  have ib : isRt g b = true := isRt_iff.2 ⟨by omega, by omega⟩
  have i0 : isRt g 0 = true := isRt_iff.2 ⟨by omega, by omega⟩
  simp
  refine callW_of hpb (by simp) ?_
  simp
  refine callW_of hp4 (by simp) ?_
  simp
  rcases slot_cases hgr ib with h0 | ⟨nb, n, hx, hnx, hxl⟩
  · have d1 := dov (do_none (k := 5) (a := 0) (i := k) (z := 0) (p := 0) (v := v) hgr (by omega) i0 ib h0) hgs
    refine callW_of d1 (by simp [acV]) ?_
    simp [doV]
  · have hno := (right_iff.1 hgr).2.1 n (List.mem_of_getElem? hnx)
    by_cases hd : k < n.data.length
    · have d1 := dov (do_set (a := 0) (z := 0) (p := 0) (v := v) (i := k) hgr ib hx hnx (by omega) (by omega)) hgs
      have hh : Holds (turned g (nb : Int) ⟨n.ptrs, n.data.set k v⟩) b k v nb ⟨n.ptrs, n.data.set k v⟩ :=
        ⟨right_turned hgr (by simpa using hno.1) hno.2, ib, by rw [rt_turned]; exact hx, by simp [turned, hxl], by simp [hd]⟩
      have hxln : (turned g (nb : Int) ⟨n.ptrs, n.data.set k v⟩).nodes.length = g.nodes.length := by simp [turned]
      simp only [Int.toNat_natCast] at d1
      generalize turned g (nb : Int) ⟨n.ptrs, n.data.set k v⟩ = x at *
      refine callW_of d1 (by simp [acV]) ?_
      simp [doV]
      refine wpS_forX 15 12 (fun i (x : Gr) => [(11, .m [.sl (x.nodes.map ndV), .sl (x.roots.map vi)]), (15, .v (vi i))]) (fun i x => x.nodes.length ≤ 10 + i ∧ ∃ m, Holds x b k v nb m) x (by simp) (fun i x => by simp) ⟨by omega, _, hh⟩ ?_
      rintro j y hj ⟨hyl, m, hy⟩
      have hys := right_sm hy.ok (by omega)
      have hwj := wrap_i ((j : Int) + 1) (by omega) (by omega)
      by_cases h1 : j < acts.length ∧ j < 12
      · obtain ⟨h1, h2⟩ := h1
        have h2' : (j : Int) < 12 := by omega
        have hac : acts[j]? = some acts[j] := List.getElem?_eq_getElem h1
        obtain ⟨hn5, hnf⟩ := hacts _ (List.getElem_mem h1)
        have hact := Act_vc (v := IntKind.u64.wrap (v + 1)) hn5 hnf
        generalize acts[j] = c at *
        match c, hn5 with
        | [n0, n1, n2, n3, n4], _ =>
        generalize mkAc [n0, n1, n2, n3, n4] (IntKind.u64.wrap (v + 1)) = a at *
        simp [h1, h2', hac, at_of hac]
        refine callW_of hact (by simp) ?_
        simp
        have hskip : ∃ y', (y'.nodes.length ≤ 10 + (j + 1) ∧ ∃ m, Holds y' b k v nb m) ∧ y.nodes.map ndV = y'.nodes.map ndV ∧ y.roots.map vi = y'.roots.map vi := ⟨y, ⟨by omega, m, hy⟩, rfl, rfl⟩
        by_cases k5 : a.kind = 5
        · simp [k5, hwj, h2]
          exact hskip
        by_cases kb : a.r = (b : Int) ∧ a.kind ≠ 4
        · simp [k5, kb.1, kb.2, hwj, h2]
          exact hskip
        · have hdo : VC Try.prog 35 false [grV y, .agg [vi a.kind, vi a.r, vi a.s, vi a.i, vi a.size, vi a.ptrs, vu a.v]] (doV (doR y a)) := dov (a := a) rfl hys
          have hd := did hy.ok a
          have hkept := hd.kept hy.ok
          have hb' : a.kind = 4 ∨ a.r ≠ b := by
            by_cases h : a.kind = 4
            · exact .inl h
            · exact .inr fun h' => kb ⟨h', h⟩
          rcases Classical.em (a.r = (b : Int)) with hab | hab
          case' inl =>
            have h4 : a.kind = 4 := hb'.resolve_right fun h => h hab
            simp [k5, hab, h4]
            rw [h4, hab] at hdo
          case' inr => simp [k5, hab]
          all_goals
            rcases hkept with h | h | ⟨u, x, h, hk⟩
            · rw [h] at hdo
              refine callW_of hdo (by simp [acV, *]) ?_
              simp [doV, hwj, h2]
              exact hskip
            · rw [h] at hdo
              refine callW_of hdo (by simp [acV, *]) ?_
              simp [doV, hwj, h2]
              exact hskip
            · rw [h] at hdo hd
              obtain ⟨m', hx'⟩ := holds_step hy hd k5 hb'
              have hnl := hk.nlen
              refine callW_of hdo (by simp [acV, *]) ?_
              simp [doV, hwj, h2]
              exact ⟨x, ⟨by rw [hnl]; split <;> omega, m', hx'⟩, rfl, rfl⟩
      · have h1' : ¬ ((j : Int) < acts.length ∧ (j : Int) < 12) := by omega
        have hget := dov (do_get (a := 0) (z := 0) (p := 0) (v := 0) (i := k) hy.ok hy.isr hy.at_ hy.node (by omega) (by have := (List.getElem?_eq_some_iff.1 hy.dat).1; omega)) hys
        simp only [Int.toNat_natCast, hy.dat, Option.getD_some] at hget
        by_cases ha : j < acts.length
        · have : ¬ ((j : Int) < 12) := by omega
          simp [ha, this]
          refine callW_of hget (by simp [acV]) ?_
          simp [doV]
        · simp [ha]
          refine callW_of hget (by simp [acV]) ?_
          simp [doV]
    · have d1 := dov (do_set_arg (a := 0) (z := 0) (p := 0) (v := v) (i := k) hgr ib hx hnx (.inr (by omega))) hgs
      refine callW_of d1 (by simp [acV]) ?_
      simp [doV]
end Vm
