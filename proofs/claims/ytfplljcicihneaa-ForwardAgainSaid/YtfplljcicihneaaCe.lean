/-
  Forward (the document's answer of layer 13), and pointers to a heap's objects.
-/
import Derived.Test.YtfplljcicihneaaCd
import Derived.Test.YtfplljcicihneaaBh
import Derived.Test.YtfplljcicihneaaHh
namespace Vm
open Go Go.Proofs
set_option linter.unusedSimpArgs false
set_option linter.unusedVariables false
set_option maxRecDepth 100000
set_option maxHeartbeats 1000000
theorem adr_u {w : Int} (hw : U64 w) : U64 (adr w).1 := by
  unfold U64 adr at *
  split
  · simp
  split
  · simp
  · simp only; omega
theorem findL_ok {l : Ly} {a : Int} (h : (findL l a).2.2 = 0) : rightL l = true ∧ 1 ≤ (findL l a).1 ∧ (findL l a).1 ≤ 4 ∧ 0 ≤ (findL l a).2.1 ∧ (findL l a).2.1 < sizL l (findL l a).1 ∧ a = fstL l (findL l a).1 + (findL l a).2.1 := by
  unfold findL at *
  cases hr : rightL l
  · simp [hr] at h
  simp only [hr] at h ⊢
  simp only [Bool.true_eq_false, if_false] at h ⊢
  by_cases h1 : inL l a 1 = true
  · rw [if_pos h1]
    have := inL_iff.1 h1
    simp only
    refine ⟨trivial, by omega, by omega, by omega, by omega, by omega⟩
  rw [if_neg h1] at h ⊢
  by_cases h2 : inL l a 2 = true
  · rw [if_pos h2]
    have := inL_iff.1 h2
    simp only
    refine ⟨trivial, by omega, by omega, by omega, by omega, by omega⟩
  rw [if_neg h2] at h ⊢
  by_cases h3 : inL l a 3 = true
  · rw [if_pos h3]
    have := inL_iff.1 h3
    simp only
    refine ⟨trivial, by omega, by omega, by omega, by omega, by omega⟩
  rw [if_neg h3] at h ⊢
  by_cases h4 : inL l a 4 = true
  · rw [if_pos h4]
    have := inL_iff.1 h4
    simp only
    refine ⟨trivial, by omega, by omega, by omega, by omega, by omega⟩
  rw [if_neg h4] at h
  simp at h
theorem sizL_layH {h : Hp} {k : Int} (hk : 1 ≤ k ∧ k ≤ 4) : sizL (layH h) k = (partH h k).length := by
  have : k = 1 ∨ k = 2 ∨ k = 3 ∨ k = 4 := by omega
  rcases this with rfl | rfl | rfl | rfl <;> rfl
def Hp.zero : Hp := ⟨0, 0, 0, false, 0, [], [], [], [], []⟩
/-- n noughts from a on -/
def zr (ws : List Int) (a : Nat) : Nat → List Int
  | 0 => ws
  | i + 1 => (zr ws a i).set (a + i) 0
@[simp] theorem zr_len (ws : List Int) (a n : Nat) : (zr ws a n).length = ws.length := by
  induction n with
  | zero => rfl
  | succ n ih => simp [zr, ih]
def movedH (h : Hp) (part : Int) (a n : Nat) : Hp := { h with low := h.low ++ ((partH h part).take (a + n)).drop a }
def fwdC (h : Hp) (part : Int) (a n : Nat) : Int × Hp × Int :=
  if (partH h part).length < a + n then (0, Hp.zero, 2)
  else if roomL (layH h) < n then (0, Hp.zero, 7)
  else
    let to := (ptrTo (addrL (layH (movedH h part a n)) 1 h.low.length).1).1
    (to, withH (movedH h part a n) part ((zr (partH h part) a n).set a to), 0)
def fwO (r : Int × Hp × Int) : V := .tup [vu r.1, hpV r.2.1, vi r.2.2]
theorem room_le {h : Hp} : roomL (layH h) ≤ 4096 := by
  unfold roomL
  split
  · rename_i hr
    have := rightL_iff.1 hr
    have e1 : (layH h).low = h.low.length := rfl
    have e2 : (layH h).high = h.high.length := rfl
    omega
  · omega
theorem addr_u {l : Ly} {k a : Int} : U64 (addrL l k a).1 := by
  unfold addrL
  cases hr : rightL l
  · simp [U64]
  simp only [Bool.true_eq_false, if_false]
  split
  · simp [U64]
  split
  · simp [U64]
  · have := fstL_range hr k
    simp only [U64]
    omega
theorem addr_63 {l : Ly} {k a : Int} : 0 ≤ (addrL l k a).1 ∧ (addrL l k a).1 < 9223372036854775808 := by
  unfold addrL
  cases hr : rightL l
  · simp
  simp only [Bool.true_eq_false, if_false]
  split
  · simp
  split
  · simp
  · have := fstL_range hr k
    simp only
    omega
theorem ptrTo_u {a : Int} : U64 (ptrTo a).1 := by
  unfold ptrTo U64
  split
  · simp
  · simp only; omega
theorem flat_vu : ∀ l : List Int, Vm.flat (l.map vu) = l.map vu
  | [] => rfl
  | a :: l => by
    have := flat_vu l
    simp only [List.map_cons, Vm.flat] at this ⊢
    simp [this]
theorem flsV_vu (l : List Int) : flsV (.sl (l.map vu)) = some (.sl (l.map vu)) := by
  unfold flsV
  simp only [flat_vu]
  rw [if_pos]
  simp [V.flatc]
theorem copied_vc {h : Hp} (hh : h.ok) {part : Int} (hp : part = 3 ∨ part = 4) {a n : Nat} (ha : a ≤ 1000000) (hn : n ≤ 1000) {sh : Int} : VC Try.prog 67 false [hpV h, .agg [vi part, vi (a : Int)], shV (n : Int) sh] (fwO (fwdC h part a (n + 1))) := by
  refine vc_of_wp Try.func67 follows (by kernel_rfl) c67 rfl ?_
  have k1 := Part_vc (h := h) (n := part)
  have hpl := (partH_ok hh part).2
  have hpw := (partH_ok hh part).1
  unfold fwdC
  obtain ⟨m, hm⟩ : ∃ m, n + 1 = m := ⟨_, rfl⟩
  obtain ⟨b, hb⟩ : ∃ b, a + m = b := ⟨_, rfl⟩
  have hm' : (1 : Int) + (n : Int) = ((m : Nat) : Int) := by omega
  have hb' : (a : Int) + (m : Int) = (b : Int) := by omega
  have w1 := wrap_i (1 + (n : Int)) (by omega) (by omega)
  have w2 := wrap_i ((a : Int) + (m : Int)) (by omega) (by omega)
  rw [hm'] at w1
  rw [hb'] at w2
  rw [hm, hb]
  have hmx : 1 ≤ m ∧ m ≤ 1001 := by omega
  clear hm
  generalize hws : partH h part = ws at *
  have hlim : ws.length ≤ lim := by unfold lim; omega
  simp [p67, shV]
  refine callW_of k1 (by simp [hpV]) ?_
  by_cases g1 : ws.length < b
  · simp [hm', hb', w1, w2, g1, fwO, hpV, Hp.zero, hlim]
  simp [hm', hb', w1, w2, g1, hlim]
  refine callW_of (refLayout_vc (h := h)) (by simp [hpV]) ?_
  simp
  refine callW_of (refRoomL_vc hh.lay) (by simp) ?_
  by_cases g2 : roomL (layH h) < m
  · simp [g2, fwO, hpV, Hp.zero]
  have hl := hh.low
  have hlim2 : h.low.length ≤ lim := by unfold lim; omega
  have hlim3 : h.low.length + (b - a) ≤ lim := by unfold lim; omega
  simp [g2, hm', hb', w2, show a ≤ b by omega, show b ≤ ws.length by omega, hlim2, hlim3]
  have hmo : movedH h part a m = { h with low := h.low ++ (ws.take b).drop a } := by unfold movedH; rw [hb, hws]
  have hmv : (movedH h part a m).ok := by
    rw [hmo]
    have hrl : rightL (layH h) = true := by
      cases hr : rightL (layH h)
      · have : roomL (layH h) = 0 := by unfold roomL; rw [hr]; rfl
        omega
      · rfl
    have hrm : roomL (layH h) = (layH h).cap - (layH h).low - (layH h).high := by unfold roomL; rw [hrl]; rfl
    have hri := rightL_iff.1 hrl
    have q1 : (layH h).low = h.low.length := rfl
    have q2 : (layH h).high = h.high.length := rfl
    exact ⟨hh.base, hh.cap, hh.to, hh.scan, by simp; omega, hh.high, hh.old, hh.far, hh.roots, by
      intro w hw
      rcases List.mem_append.1 hw with hw | hw
      · exact hh.lowW w hw
      · exact hpw w (List.mem_of_mem_take (List.mem_of_mem_drop hw)), hh.highW, hh.oldW, hh.farW, hh.rootsW⟩
  have k2 := refLayout_vc (h := movedH h part a m)
  have e1 : List.drop a (List.take b (ws.map vu)) = ((ws.take b).drop a).map vu := by rw [← List.map_take, ← List.map_drop]
  have hlen : ((ws.take b).drop a).length = b - a := by simp; omega
  have e2 : flsV (.sl (((ws.take b).drop a).map vu)) = some (.sl (((ws.take b).drop a).map vu)) := flsV_vu _
  have e3 : appV 1 (.sl (h.low.map vu)) (.sl (((ws.take b).drop a).map vu)) = some (.sl ((h.low ++ (ws.take b).drop a).map vu)) := by
    simp [-List.map_drop, -List.map_take, appV, hlen, hlim3]
  rw [e1, e2]
  simp [-List.map_drop, -List.map_take, -List.map_append, e3]
  unfold hpV at k2
  rw [hmo] at k2
  refine callW_of k2 (by simp; rfl) ?_
  rw [← hmo]
  generalize hL : h.low ++ (ws.take b).drop a = L at *
  simp
  refine callW_of (refAddrL_vc hmv.lay (part := 1) (at_ := (h.low.length : Int))) (by simp) ?_
  simp
  refine callW_of (refPtrTo_vc addr_u) (by simp) ?_
  simp
  generalize (ptrTo (addrL (layH (movedH h part a m)) 1 (h.low.length : Int)).1).1 = to at *
  refine wpS_for 18 m (fun i => [(9, .v (.sl ((zr ws a i).map vu))), (18, .v (vi i))]) (fun _ => True) (by simp [zr]) (by simp) trivial ?_
  intro i hi _
  have hwi := wrap_i ((i : Int) + 1) (by omega) (by omega)
  by_cases hlt : i < m
  · have hwa := wrap_i ((a : Int) + (i : Int)) (by omega) (by omega)
    obtain ⟨q, hq⟩ : ∃ q, a + i = q := ⟨_, rfl⟩
    have hq' : (a : Int) + (i : Int) = (q : Int) := by omega
    rw [hq'] at hwa
    have hql : q < (zr ws a i).length := by simp; omega
    have hql' : q < ws.length := by simpa using hql
    simp [hlt, hwi, hq', hwa, hql, hql', zr, hq, put_vu]
  · have : i = m := by omega
    subst this
    have hal : a < ws.length := by omega
    have k3 := With_vc (h := movedH h part a i) (n := part) (l := (zr ws a i).set a to)
    unfold hpV at k3
    rw [hmo] at k3
    simp [hal, put_vu]
    rw [← List.map_set]
    refine callW_of k3 (by simp) ?_
    simp [fwO, hmo, hpV]
/-- what Forward answers -/
def fwd (h : Hp) (w : Int) : Int × Hp × Int :=
  if rightL (layH h) = false then (0, Hp.zero, 1)
  else if w = 0 then (0, h, 0)
  else if (adr w).2 ≠ 0 then (0, Hp.zero, 3)
  else if (findL (layH h) (adr w).1).2.2 ≠ 0 then (0, Hp.zero, 6)
  else if (findL (layH h) (adr w).1).1 < 3 then (w, h, 0)
  else if (adr ((partH h (findL (layH h) (adr w).1).1).getD (findL (layH h) (adr w).1).2.1.toNat 0)).2 = 0 then ((partH h (findL (layH h) (adr w).1).1).getD (findL (layH h) (adr w).1).2.1.toNat 0, h, 0)
  else if (unpk ((partH h (findL (layH h) (adr w).1).1).getD (findL (layH h) (adr w).1).2.1.toNat 0)).2.2 ≠ 0 then (0, Hp.zero, 3)
  else fwdC h (findL (layH h) (adr w).1).1 (findL (layH h) (adr w).1).2.1.toNat ((unpk ((partH h (findL (layH h) (adr w).1).1).getD (findL (layH h) (adr w).1).2.1.toNat 0)).1.toNat + 1)
theorem refForward_vc {h : Hp} (hh : h.ok) {w : Int} (hw : U64 w) : VC Try.prog 21 false [hpV h, vu w] (fwO (fwd h w)) := by
  refine vc_of_wp Try.func21 follows (by kernel_rfl) c21 rfl ?_
  unfold fwd
  simp [p21]
  refine callW_of (refLayout_vc (h := h)) (by simp [hpV]) ?_
  simp
  refine callW_of (refRightL_vc hh.lay) (by simp) ?_
  cases hr : rightL (layH h)
  · simp [fwO, hpV, Hp.zero]
  by_cases h0 : w = 0
  · simp [h0, fwO, hpV]
  simp [h0]
  refine callW_of (refAdr_vc hw) (by simp) ?_
  by_cases h1 : (adr w).2 = 0
  case neg => simp [h1, fwO, hpV, Hp.zero]
  have hau := adr_u hw
  simp [h1]
  generalize (adr w).1 = a at *
  refine callW_of (refLayout_vc (h := h)) (by simp [hpV]) ?_
  simp
  refine callW_of (refFindL_vc hh.lay hau) (by simp) ?_
  by_cases h2 : (findL (layH h) a).2.2 = 0
  case neg => simp [h2, fwO, hpV, Hp.zero]
  have hf := findL_ok h2
  simp [h2]
  generalize hp : (findL (layH h) a).1 = part at *
  obtain ⟨_, f1, f2, f3, f4, f5⟩ := hf
  rw [sizL_layH ⟨f1, f2⟩] at f4
  obtain ⟨k, hk⟩ := Int.eq_ofNat_of_zero_le f3
  rw [hk] at f4 ⊢
  by_cases h3 : part < 3
  · simp [h3, fwO, hpV]
  have hkl : k < (partH h part).length := by omega
  have hx : (partH h part)[k]? = some (partH h part)[k] := List.getElem?_eq_getElem hkl
  have hv := (partH_ok hh part).1 _ (List.getElem_mem hkl)
  simp [h3]
  refine callW_of (Part_vc (h := h) (n := part)) (by simp [hpV]) ?_
  have hk6 := (partH_ok hh part).2
  have c2 := fun n (hn : n ≤ 1000) sh => copied_vc hh (part := part) (by omega) (a := k) (n := n) (by omega) hn (sh := sh)
  generalize hws : partH h part = ws at *
  generalize hvv : ws[k] = v at *
  simp [hkl, hvv, hx]
  refine callW_of (refAdr_vc hv) (by simp) ?_
  by_cases h4 : (adr v).2 = 0
  · simp [h4, fwO, hpV]
  simp [h4]
  refine callW_of (refUnpk_vc hv) (by simp) ?_
  by_cases h5 : (unpk v).2.2 = 0
  case neg => simp [h5, fwO, hpV, Hp.zero]
  have hu := shapeOk_iff.1 (unpk_ok h5)
  simp [h5, shV]
  obtain ⟨n, hn⟩ := Int.eq_ofNat_of_zero_le hu.1
  have c3 := c2 n (by omega) (unpk v).2.1
  unfold shV at c3
  rw [hn]
  refine callW_of c3 (by simp [hpV]) ?_
  simp [fwO, hpV]
def goneR (h : Hp) (w : Int) : Bool := decide ((fwd h w).2.2 = 0) && decide ((fwd h w).1 = w)
theorem refGone_vc {h : Hp} (hh : h.ok) {w : Int} (hw : U64 w) : VC Try.prog 24 false [hpV h, vu w] (.bool (goneR h w)) := by
  refine vc_of_wp Try.func24 follows (by kernel_rfl) c24 rfl ?_
  unfold goneR
  simp [p24]
  refine callW_of (refForward_vc hh hw) (by simp [hpV]) ?_
  by_cases h1 : (fwd h w).2.2 = 0
  · by_cases h2 : (fwd h w).1 = w
    · simp [fwO, h1, h2]
    · simp [fwO, h1, h2]
  · simp [fwO, h1]
/-- the pointer to one of a heap's objects -/
def ptrR (h : Hp) (part at_ : Int) : Int :=
  if (objsR h part).1 = [] then 0 else 2 * (addrL (layH h) part ((objsR h part).1.getD (pick at_ (objsR h part).1.length).toNat default).at_).1 + 1
theorem Pointer_vc {h : Hp} (hh : h.ok) {part at_ : Int} (ha : Fit at_) : VC Try.prog 19 false [hpV h, vi part, vi at_] (vu (ptrR h part at_)) := by
  refine vc_of_wp Try.func19 follows (by kernel_rfl) c19 rfl ?_
  unfold ptrR
  simp [p19]
  refine callW_of (refObjects_vc hh) (by simp [hpV]) ?_
  have hlen := objsR_len hh part
  generalize (objsR h part).1 = l at *
  by_cases h0 : l = []
  · subst h0; simp
  have hpos : 0 < l.length := List.length_pos_iff.2 h0
  have hpk := pick_lt (c := at_) (n := (l.length : Int)) (by omega)
  have hl0 : ¬ ((l.length : Int) = 0) := by omega
  simp [h0]
  refine callW_of (refLayout_vc (h := h)) (by simp [hpV]) ?_
  simp
  refine callW_of (pick13_vc ha (n := (l.length : Int)) (by omega)) (by simp) ?_
  obtain ⟨k, hk⟩ := Int.eq_ofNat_of_zero_le hpk.1
  rw [hk] at hpk ⊢
  have hkl : k < l.length := by omega
  have hx : l[k]? = some l[k] := List.getElem?_eq_getElem hkl
  generalize hov : l[k] = o at *
  simp [hkl, hx, hov, idxV]
  refine callW_of (refAddrL_vc hh.lay (part := part) (at_ := o.at_)) (by simp) ?_
  have h63 := @addr_63 (layH h) part o.at_
  have w1 := wrap_u (2 * (addrL (layH h) part o.at_).1) (by omega) (by omega)
  have w2 := wrap_u (2 * (addrL (layH h) part o.at_).1 + 1) (by omega) (by omega)
  simp [w1, w2]
end Vm
