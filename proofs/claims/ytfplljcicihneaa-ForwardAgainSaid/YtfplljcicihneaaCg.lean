/-
  Heaps of any words, and heaps of which one thing is turned: the whole.
-/
import Derived.Test.YtfplljcicihneaaCf
namespace Vm
open Go Go.Proofs
set_option linter.unusedSimpArgs false
set_option linter.unusedVariables false
set_option maxRecDepth 100000
set_option maxHeartbeats 1000000
def heap10 (l : Ly) (ws : List Int) : Hp := ⟨l.base, l.cap, l.to, false, 0, someW ws 0 l.low.toNat, someW ws 1 l.high.toNat, someW ws 2 l.old.toNat, someW ws 3 l.far.toNat, someW ws 4 3⟩
theorem someW_len (ws : List Int) (fr : Int) (n : Nat) : (someW ws fr n).length = n := smN_len _ _ _
theorem someW_u {ws : List Int} {fr : Int} {n : Nat} (hn : n ≤ 1000000) : ∀ w ∈ someW ws fr n, U64 w := smN_u hn
theorem heap10_ok {l : Ly} {ws : List Int} (hr : rightL l = true) : (heap10 l ws).ok := by
  have := rightL_iff.1 hr
  refine ⟨?_, ?_, ?_, ?_, ?_, ?_, ?_, ?_, ?_, ?_, ?_, ?_, ?_, ?_⟩
  all_goals simp only [heap10, someW_len]
  · unfold U64; omega
  · unfold Fit; omega
  · unfold Fit; omega
  · unfold Fit; omega
  · omega
  · omega
  · omega
  · omega
  · omega
  all_goals exact someW_u (by omega)
theorem heap10_vc {base a b c d e f : Int} (hb : U64 base) (ha : Fit a) (h2 : Fit b) (hc : Fit c) (hd : Fit d) (he : Fit e) (hf : Fit f) {ws : List Int} (hl : ws.length ≤ 9223372036854775807) :
    VC Try.prog 17 false [vu base, i6V a b c d e f, .sl (ws.map vu)] (hpV (heap10 (lay7 base a b c d e f) ws)) := by
  refine vc_of_wp Try.func17 follows (by kernel_rfl) c17 rfl ?_
  have k1 := lay7_vc hb ha h2 hc hd he hf
  have hr := rightL_iff.1 (lay7_ok base a b c d e f).1
  unfold i6V at *
  simp [p17]
  refine callW_of k1 (by simp) ?_
  generalize lay7 base a b c d e f = l at *
  obtain ⟨n1, e1⟩ := Int.eq_ofNat_of_zero_le hr.2.2.2.2.2.1.1
  obtain ⟨n2, e2⟩ := Int.eq_ofNat_of_zero_le hr.2.2.2.2.2.1.2.1
  obtain ⟨n3, e3⟩ := Int.eq_ofNat_of_zero_le hr.2.2.2.2.2.2.1
  obtain ⟨n4, e4⟩ := Int.eq_ofNat_of_zero_le hr.2.2.2.2.2.2.2.1
  simp [e1, e2, e3, e4]
  refine callW_of (some_vc hl (fr := 0) (by unfold Fit; omega) (n := n1) (by omega)) (by simp) ?_
  simp [e1, e2, e3, e4]
  refine callW_of (some_vc hl (fr := 1) (by unfold Fit; omega) (n := n2) (by omega)) (by simp) ?_
  simp [e1, e2, e3, e4]
  refine callW_of (some_vc hl (fr := 2) (by unfold Fit; omega) (n := n3) (by omega)) (by simp) ?_
  simp [e1, e2, e3, e4]
  refine callW_of (some_vc hl (fr := 3) (by unfold Fit; omega) (n := n4) (by omega)) (by simp) ?_
  simp [e1, e2, e3, e4]
  refine callW_of (some_vc hl (fr := 4) (by unfold Fit; omega) (n := 3) (by omega)) (by simp) ?_
  simp [hpV, heap10, e1, e2, e3, e4]
def turned (h : Hp) (which x w : Int) : Hp :=
  if pick (which.tdiv 4) 11 = 0 then { h with cycle := !h.cycle }
  else if pick (which.tdiv 4) 11 = 1 then { h with scan := x }
  else if pick (which.tdiv 4) 11 = 2 then { h with cap := x }
  else if pick (which.tdiv 4) 11 = 3 then { h with to := x }
  else if pick (which.tdiv 4) 11 = 4 then { h with roots := h.roots ++ [w] }
  else if pick (which.tdiv 4) 11 = 5 then withH h (1 + pick which 4) (partH h (1 + pick which 4) ++ [w])
  else if pick (which.tdiv 4) 11 = 6 then withH h (1 + pick which 4) ((partH h (1 + pick which 4)).take (pick x ((partH h (1 + pick which 4)).length + 1)).toNat)
  else if partH h (1 + pick which 4) = [] then h
  else withH h (1 + pick which 4) ((partH h (1 + pick which 4)).set (pick x (partH h (1 + pick which 4)).length).toNat w)
theorem withH_ok {h : Hp} (hh : h.ok) {k : Int} {l : List Int} (h1 : l.length ≤ 1000000) (h2 : ∀ w ∈ l, U64 w) : (withH h k l).ok := by
  obtain ⟨a1, a2, a3, a4, a5, a6, a7, a8, a9, b1, b2, b3, b4, b5⟩ := hh
  unfold withH
  split
  · exact ⟨a1, a2, a3, a4, h1, a6, a7, a8, a9, h2, b2, b3, b4, b5⟩
  split
  · exact ⟨a1, a2, a3, a4, a5, h1, a7, a8, a9, b1, h2, b3, b4, b5⟩
  split
  · exact ⟨a1, a2, a3, a4, a5, a6, h1, a8, a9, b1, b2, h2, b4, b5⟩
  · exact ⟨a1, a2, a3, a4, a5, a6, a7, h1, a9, b1, b2, b3, h2, b5⟩
theorem turned_ok {h : Hp} (hh : h.ok) (hs : ∀ k, (partH h k).length ≤ 999999) (hro : h.roots.length ≤ 999999) {which x w : Int} (hx : Fit x) (hw : U64 w) : (turned h which x w).ok := by
  have hp := partH_ok hh (1 + pick which 4)
  have hs := hs (1 + pick which 4)
  have hho := hh
  obtain ⟨a1, a2, a3, a4, a5, a6, a7, a8, a9, b1, b2, b3, b4, b5⟩ := hh
  unfold turned
  split
  · exact ⟨a1, a2, a3, a4, a5, a6, a7, a8, a9, b1, b2, b3, b4, b5⟩
  split
  · exact ⟨a1, a2, a3, hx, a5, a6, a7, a8, a9, b1, b2, b3, b4, b5⟩
  split
  · exact ⟨a1, hx, a3, a4, a5, a6, a7, a8, a9, b1, b2, b3, b4, b5⟩
  split
  · exact ⟨a1, a2, hx, a4, a5, a6, a7, a8, a9, b1, b2, b3, b4, b5⟩
  split
  · refine ⟨a1, a2, a3, a4, a5, a6, a7, a8, by simp; omega, b1, b2, b3, b4, ?_⟩
    intro v hv
    rcases List.mem_append.1 hv with hv | hv
    · exact b5 v hv
    · simp at hv; subst hv; exact hw
  split
  · refine withH_ok hho (by simp; omega) ?_
    intro v hv
    rcases List.mem_append.1 hv with hv | hv
    · exact hp.1 v hv
    · simp at hv; subst hv; exact hw
  split
  · exact withH_ok hho (by simp; omega) fun v hv => hp.1 v (List.mem_of_mem_take hv)
  split
  · exact hho
  · refine withH_ok hho (by simp; omega) fun v hv => ?_
    rcases List.mem_or_eq_of_mem_set hv with hv | hv
    · exact hp.1 v hv
    · subst hv; exact hw
theorem tdiv4_fit {c : Int} (h : Fit c) : Fit (c.tdiv 4) := by
  unfold Fit at *
  rcases Int.le_total 0 c with h0 | h0
  · rw [Int.tdiv_eq_ediv_of_nonneg h0]; omega
  · have e : c = -(-c) := by omega
    have : c.tdiv 4 = -((-c) / 4) := by
      conv => lhs; rw [e]
      rw [Int.neg_tdiv, Int.tdiv_eq_ediv_of_nonneg (by omega)]
    omega
theorem Turned_vc {h : Hp} (hh : h.ok) {which x w : Int} (hwh : Fit which) (hx : Fit x) : VC Try.prog 18 false [hpV h, vi which, vi x, vu w] (hpV (turned h which x w)) := by
  refine vc_of_wp Try.func18 follows (by kernel_rfl) c18 rfl ?_
  have hpk := pick_lt (c := which) (n := 4) (by omega)
  have hq : Fit (which.tdiv 4) := by
    exact tdiv4_fit hwh
  have hpl := (partH_ok hh (1 + pick which 4)).2
  unfold turned
  simp [p18]
  refine callW_of (pick11_vc hwh (n := 4) (by omega)) (by simp) ?_
  have w1 := wrap_i (1 + pick which 4) (by omega) (by omega)
  have w2 := wrap_i (which.tdiv 4) (by unfold Fit at hq; omega) (by unfold Fit at hq; omega)
  simp [w1]
  refine callW_of (Part_vc (h := h) (n := 1 + pick which 4)) (by simp [hpV]) ?_
  have k5 := fun l => With_vc (h := h) (n := 1 + pick which 4) (l := l)
  generalize partH h (1 + pick which 4) = l at *
  generalize 1 + pick which 4 = part at *
  have hlim : l.length + 1 ≤ lim := by unfold lim; omega
  have hlim' : l.length ≤ lim := by unfold lim; omega
  have hrl : h.roots.length + 1 ≤ lim := by have := hh.roots; unfold lim; omega
  have hrl' : h.roots.length ≤ lim := by omega
  simp [hlim', w2]
  refine callW_of (pick11_vc hq (n := 11) (by omega)) (by simp) ?_
  generalize pick (which.tdiv 4) 11 = q at *
  unfold hpV at k5
  by_cases h0 : q = 0
  · simp [h0, hpV]
  by_cases h1 : q = 1
  · simp [h1, hpV]
  by_cases h2 : q = 2
  · simp [h2, hpV]
  by_cases h3 : q = 3
  · simp [h3, hpV]
  by_cases h4 : q = 4
  · simp [h4, hpV, hrl, hrl']
  by_cases h5 : q = 5
  · have k6 := k5 (l ++ [w])
    simp at k6
    simp [h5, hlim]
    refine callW_of k6 (by simp) ?_
    simp [hpV]
  by_cases h6 : q = 6
  · have hpp := pick_lt (c := x) (n := (l.length : Int) + 1) (by omega)
    have w3 := wrap_i ((l.length : Int) + 1) (by omega) (by omega)
    simp [h6, w3]
    refine callW_of (pick11_vc hx (n := (l.length : Int) + 1) (by omega)) (by simp) ?_
    obtain ⟨m, hm⟩ := Int.eq_ofNat_of_zero_le hpp.1
    rw [hm] at hpp ⊢
    have k6 := k5 (l.take m)
    simp at k6
    simp [show m ≤ l.length by omega]
    refine callW_of k6 (by simp) ?_
    simp [hpV]
  simp [h0, h1, h2, h3, h4, h5, h6]
  by_cases h7 : l = []
  · simp [h7, hpV]
  · have hpos : 0 < l.length := List.length_pos_iff.2 h7
    have hpp := pick_lt (c := x) (n := (l.length : Int)) (by omega)
    simp [h7, hpos]
    refine callW_of (pick11_vc hx (n := (l.length : Int)) (by omega)) (by simp) ?_
    obtain ⟨m, hm⟩ := Int.eq_ofNat_of_zero_le hpp.1
    rw [hm] at hpp ⊢
    have k6 := k5 (l.set m w)
    simp at k6
    simp [show m < l.length by omega]
    refine callW_of k6 (by simp) ?_
    simp [hpV]
end Vm
