/-
  Forward (the document's answer of layer 13), and pointers to a heap's objects.
-/
import Derived.Test.YtfplljcicihneaaCd
import Derived.Test.YtfplljcicihneaaB5
import Derived.Test.YtfplljcicihneaaHh
namespace Vm
open Go Go.Proofs
set_option linter.unusedSimpArgs false
set_option linter.unusedVariables false
set_option maxRecDepth 100000
set_option maxHeartbeats 1000000
theorem adr_u {w : Int} (hw : U64 w) : U64 (adr w).1 := by
  unfold U64 adr at *
  split
  · simp
  split
  · simp
  · simp only; omega
theorem findL_ok {l : Ly} {a : Int} (h : (findL l a).2.2 = 0) : rightL l = true ∧ 1 ≤ (findL l a).1 ∧ (findL l a).1 ≤ 4 ∧ 0 ≤ (findL l a).2.1 ∧ (findL l a).2.1 < sizL l (findL l a).1 ∧ a = fstL l (findL l a).1 + (findL l a).2.1 := by
  unfold findL at *
  cases hr : rightL l
  · simp [hr] at h
  simp only [hr] at h ⊢
  simp only [Bool.true_eq_false, if_false] at h ⊢
  by_cases h1 : inL l a 1 = true
  · rw [if_pos h1]
    have := inL_iff.1 h1
    simp only
    refine ⟨trivial, by omega, by omega, by omega, by omega, by omega⟩
  rw [if_neg h1] at h ⊢
  by_cases h2 : inL l a 2 = true
  · rw [if_pos h2]
    have := inL_iff.1 h2
    simp only
    refine ⟨trivial, by omega, by omega, by omega, by omega, by omega⟩
  rw [if_neg h2] at h ⊢
  by_cases h3 : inL l a 3 = true
  · rw [if_pos h3]
    have := inL_iff.1 h3
    simp only
    refine ⟨trivial, by omega, by omega, by omega, by omega, by omega⟩
  rw [if_neg h3] at h ⊢
  by_cases h4 : inL l a 4 = true
  · rw [if_pos h4]
    have := inL_iff.1 h4
    simp only
    refine ⟨trivial, by omega, by omega, by omega, by omega, by omega⟩
  rw [if_neg h4] at h
  simp at h
theorem sizL_layH {h : Hp} {k : Int} (hk : 1 ≤ k ∧ k ≤ 4) : sizL (layH h) k = (partH h k).length := by
  have : k = 1 ∨ k = 2 ∨ k = 3 ∨ k = 4 := by omega
  rcases this with rfl | rfl | rfl | rfl <;> rfl
def Hp.zero : Hp := ⟨0, 0, 0, false, 0, [], [], [], [], []⟩
/-- n noughts from a on -/
def zr (ws : List Int) (a : Nat) : Nat → List Int
  | 0 => ws
  | i + 1 => (zr ws a i).set (a + i) 0
@[simp] theorem zr_len (ws : List Int) (a n : Nat) : (zr ws a n).length = ws.length := by
  induction n with
  | zero => rfl
  | succ n ih => simp [zr, ih]
def movedH (h : Hp) (part : Int) (a n : Nat) : Hp := { h with low := h.low ++ ((partH h part).take (a + n)).drop a }
def fwdC (h : Hp) (part : Int) (a n : Nat) : Int × Hp × Int :=
  if (partH h part).length < a + n then (0, Hp.zero, 2)
  else if roomL (layH h) < n then (0, Hp.zero, 7)
  else
    let to := (ptrTo (addrL (layH (movedH h part a n)) 1 h.low.length).1).1
    (to, withH (movedH h part a n) part ((zr (partH h part) a n).set a to), 0)
def fwO (r : Int × Hp × Int) : V := .tup [vu r.1, hpV r.2.1, vi r.2.2]
theorem room_le {h : Hp} : roomL (layH h) ≤ 4096 := by
  unfold roomL
  split
  · rename_i hr
    have := rightL_iff.1 hr
    have e1 : (layH h).low = h.low.length := rfl
    have e2 : (layH h).high = h.high.length := rfl
    omega
  · omega
theorem addr_u {l : Ly} {k a : Int} : U64 (addrL l k a).1 := by
  unfold addrL
  cases hr : rightL l
  · simp [U64]
  simp only [Bool.true_eq_false, if_false]
  split
  · simp [U64]
  split
  · simp [U64]
  · have := fstL_range hr k
    simp only [U64]
    omega
theorem addr_63 {l : Ly} {k a : Int} : 0 ≤ (addrL l k a).1 ∧ (addrL l k a).1 < 9223372036854775808 := by
  unfold addrL
  cases hr : rightL l
  · simp
  simp only [Bool.true_eq_false, if_false]
  split
  · simp
  split
  · simp
  · have := fstL_range hr k
    simp only
    omega
theorem ptrTo_u {a : Int} : U64 (ptrTo a).1 := by
  unfold ptrTo U64
  split
  · simp
  · simp only; omega
theorem flat_vu : ∀ l : List Int, Vm.flat (l.map vu) = l.map vu
  | [] => rfl
  | a :: l => by
    have := flat_vu l
    simp only [List.map_cons, Vm.flat] at this ⊢
    simp [this]
theorem flsV_vu (l : List Int) : flsV (.sl (l.map vu)) = some (.sl (l.map vu)) := by
  unfold flsV
  simp only [flat_vu]
  rw [if_pos]
  simp [V.flatc]
theorem copied_vc {h : Hp} (hh : h.ok) {part : Int} (hp : part = 3 ∨ part = 4) {a n : Nat} (ha : a ≤ 1000000) (hn : n ≤ 1000) {sh : Int} : VC Try.prog 67 false [hpV h, .agg [vi part, vi (a : Int)], shV (n : Int) sh] (fwO (fwdC h part a (n + 1))) := by
  refine vc_of_wp Try.func67 follows (by kernel_rfl) c67 rfl ?_
  have k1 := Part_vc (h := h) (n := part)
  have hpl := (partH_ok hh part).2
  have hpw := (partH_ok hh part).1
  unfold fwdC
  obtain ⟨m, hm⟩ : ∃ m, n + 1 = m := ⟨_, rfl⟩
  obtain ⟨b, hb⟩ : ∃ b, a + m = b := ⟨_, rfl⟩
  have hm' : (1 : Int) + (n : Int) = ((m : Nat) : Int) := by omega
  have hb' : (a : Int) + (m : Int) = (b : Int) := by omega
  have w1 := wrap_i (1 + (n : Int)) (by omega) (by omega)
  have w2 := wrap_i ((a : Int) + (m : Int)) (by omega) (by omega)
  rw [hm'] at w1
  rw [hb'] at w2
  rw [hm, hb]
  have hmx : 1 ≤ m ∧ m ≤ 1001 := by omega
  clear hm
  generalize hws : partH h part = ws at *
  have hlim : ws.length ≤ lim := by unfold lim; omega
  simp [p67, shV]
  refine callW_of k1 (by simp [hpV]) ?_
  by_cases g1 : ws.length < b
  · simp [hm', hb', w1, w2, g1, fwO, hpV, Hp.zero, hlim]
  simp [hm', hb', w1, w2, g1, hlim]
  refine callW_of (refLayout_vc (h := h)) (by simp [hpV]) ?_
  simp
  refine callW_of (refRoomL_vc hh.lay) (by simp) ?_
  by_cases g2 : roomL (layH h) < m
  · simp [g2, fwO, hpV, Hp.zero]
  have hl := hh.low
  have hlim2 : h.low.length ≤ lim := by unfold lim; omega
  have hlim3 : h.low.length + (b - a) ≤ lim := by unfold lim; omega
  simp [g2, hm', hb', w2, show a ≤ b by omega, show b ≤ ws.length by omega, hlim2, hlim3]
  have hmo : movedH h part a m = { h with low := h.low ++ (ws.take b).drop a } := by unfold movedH; rw [hb, hws]
  have hmv : (movedH h part a m).ok := by
    rw [hmo]
    have hrl : rightL (layH h) = true := by
      cases hr : rightL (layH h)
      · have : roomL (layH h) = 0 := by unfold roomL; rw [hr]; rfl
        omega
      · rfl
    have hrm : roomL (layH h) = (layH h).cap - (layH h).low - (layH h).high := by unfold roomL; rw [hrl]; rfl
    have hri := rightL_iff.1 hrl
    have q1 : (layH h).low = h.low.length := rfl
    have q2 : (layH h).high = h.high.length := rfl
    exact ⟨hh.base, hh.cap, hh.to, hh.scan, by simp; omega, hh.high, hh.old, hh.far, hh.roots, by
      intro w hw
      rcases List.mem_append.1 hw with hw | hw
      · exact hh.lowW w hw
      · exact hpw w (List.mem_of_mem_take (List.mem_of_mem_drop hw)), hh.highW, hh.oldW, hh.farW, hh.rootsW⟩
  have k2 := refLayout_vc (h := movedH h part a m)
  have e1 : List.drop a (List.take b (ws.map vu)) = ((ws.take b).drop a).map vu := by rw [← List.map_take, ← List.map_drop]
  have hlen : ((ws.take b).drop a).length = b - a := by simp; omega
  have e2 : flsV (.sl (((ws.take b).drop a).map vu)) = some (.sl (((ws.take b).drop a).map vu)) := flsV_vu _
  have e3 : appV 1 (.sl (h.low.map vu)) (.sl (((ws.take b).drop a).map vu)) = some (.sl ((h.low ++ (ws.take b).drop a).map vu)) := by
    simp [-List.map_drop, -List.map_take, appV, hlen, hlim3]
  rw [e1, e2]
  simp [-List.map_drop, -List.map_take, -List.map_append, e3]
  unfold hpV at k2
  rw [hmo] at k2
  refine callW_of k2 (by simp; rfl) ?_
  rw [← hmo]
  generalize hL : h.low ++ (ws.take b).drop a = L at *
  simp
  refine callW_of (refAddrL_vc hmv.lay (part := 1) (at_ := (h.low.length : Int))) (by simp) ?_
  simp
  refine callW_of (refPtrTo_vc addr_u) (by simp) ?_
  simp
  generalize (ptrTo (addrL (layH (movedH h part a m)) 1 (h.low.length : Int)).1).1 = to at *
  refine wpS_for 18 m (fun i => [(9, .v (.sl ((zr ws a i).map vu))), (18, .v (vi i))]) (fun _ => True) (by simp [zr]) (by simp) trivial ?_
  intro i hi _
  have hwi := wrap_i ((i : Int) + 1) (by omega) (by omega)
  by_cases hlt : i < m
  · have hwa := wrap_i ((a : Int) + (i : Int)) (by omega) (by omega)
    obtain ⟨q, hq⟩ : ∃ q, a + i = q := ⟨_, rfl⟩
    have hq' : (a : Int) + (i : Int) = (q : Int) := by omega
    rw [hq'] at hwa
    have hql : q < (zr ws a i).length := by simp; omega
    have hql' : q < ws.length := by simpa using hql
    simp [hlt, hwi, hq', hwa, hql, hql', zr, hq, put_vu]
  · have : i = m := by omega
    subst this
    have hal : a < ws.length := by omega
    have k3 := With_vc (h := movedH h part a i) (n := part) (l := (zr ws a i).set a to)
    unfold hpV at k3
    rw [hmo] at k3
    simp [hal, put_vu]
    rw [← List.map_set]
    refine callW_of k3 (by simp) ?_
    simp [fwO, hmo, hpV]
/-- what Forward answers -/
def fwd (h : Hp) (w : Int) : Int × Hp × Int :=
  if rightL (layH h) = false then (0, Hp.zero, 1)
  else if w = 0 then (0, h, 0)
  else if (adr w).2 ≠ 0 then (0, Hp.zero, 3)
  else if (findL (layH h) (adr w).1).2.2 ≠ 0 then (0, Hp.zero, 6)
  else if (findL (layH h) (adr w).1).1 < 3 then (w, h, 0)
  else if (adr ((partH h (findL (layH h) (adr w).1).1).getD (findL (layH h) (adr w).1).2.1.toNat 0)).2 = 0 then ((partH h (findL (layH h) (adr w).1).1).getD (findL (layH h) (adr w).1).2.1.toNat 0, h, 0)
  else if (unpk ((partH h (findL (layH h) (adr w).1).1).getD (findL (layH h) (adr w).1).2.1.toNat 0)).2.2 ≠ 0 then (0, Hp.zero, 3)
  else fwdC h (findL (layH h) (adr w).1).1 (findL (layH h) (adr w).1).2.1.toNat ((unpk ((partH h (findL (layH h) (adr w).1).1).getD (findL (layH h) (adr w).1).2.1.toNat 0)).1.toNat + 1)
theorem refForward_vc {h : Hp} (hh : h.ok) {w : Int} (hw : U64 w) : VC Try.prog 21 false [hpV h, vu w] (fwO (fwd h w)) := by
  refine vc_of_wp Try.func21 follows (by kernel_rfl) c21 rfl ?_
  unfold fwd
  simp [p21]
  refine callW_of (refLayout_vc (h := h)) (by simp [hpV]) ?_
  simp
  refine callW_of (refRightL_vc hh.lay) (by simp) ?_
  cases hr : rightL (layH h)
  · simp [fwO, hpV, Hp.zero]
  by_cases h0 : w = 0
  · simp [h0, fwO, hpV]
  simp [h0]
  refine callW_of (refAdr_vc hw) (by simp) ?_
  by_cases h1 : (adr w).2 = 0
  case neg => simp [h1, fwO, hpV, Hp.zero]
  have hau := adr_u hw
  simp [h1]
  generalize (adr w).1 = a at *
  refine callW_of (refLayout_vc (h := h)) (by simp [hpV]) ?_
  simp
  refine callW_of (refFindL_vc hh.lay hau) (by simp) ?_
  by_cases h2 : (findL (layH h) a).2.2 = 0
  case neg => simp [h2, fwO, hpV, Hp.zero]
  have hf := findL_ok h2
  simp [h2]
  generalize hp : (findL (layH h) a).1 = part at *
  obtain ⟨_, f1, f2, f3, f4, f5⟩ := hf
  rw [sizL_layH ⟨f1, f2⟩] at f4
  obtain ⟨k, hk⟩ := Int.eq_ofNat_of_zero_le f3
  rw [hk] at f4 ⊢
  by_cases h3 : part < 3
  · simp [h3, fwO, hpV]
  have hkl : k < (partH h part).length := by omega
  have hx : (partH h part)[k]? = some (partH h part)[k] := List.getElem?_eq_getElem hkl
  have hv := (partH_ok hh part).1 _ (List.getElem_mem hkl)
  simp [h3]
  refine callW_of (Part_vc (h := h) (n := part)) (by simp [hpV]) ?_
  have hk6 := (partH_ok hh part).2
  have c2 := fun n (hn : n ≤ 1000) sh => copied_vc hh (part := part) (by omega) (a := k) (n := n) (by omega) hn (sh := sh)
  generalize hws : partH h part = ws at *
  generalize hvv : ws[k] = v at *
  simp [hkl, hvv, hx]
  refine callW_of (refAdr_vc hv) (by simp) ?_
  by_cases h4 : (adr v).2 = 0
  · simp [h4, fwO, hpV]
  simp [h4]
  refine callW_of (refUnpk_vc hv) (by simp) ?_
  by_cases h5 : (unpk v).2.2 = 0
  case neg => simp [h5, fwO, hpV, Hp.zero]
  have hu := shapeOk_iff.1 (unpk_ok h5)
  simp [h5, shV]
  obtain ⟨n, hn⟩ := Int.eq_ofNat_of_zero_le hu.1
  have c3 := c2 n (by omega) (unpk v).2.1
  unfold shV at c3
  rw [hn]
  refine callW_of c3 (by simp [hpV]) ?_
  simp [fwO, hpV]
def goneR (h : Hp) (w : Int) : Bool := decide ((fwd h w).2.2 = 0) && decide ((fwd h w).1 = w)
theorem refGone_vc {h : Hp} (hh : h.ok) {w : Int} (hw : U64 w) : VC Try.prog 24 false [hpV h, vu w] (.bool (goneR h w)) := by
  refine vc_of_wp Try.func24 follows (by kernel_rfl) c24 rfl ?_
  unfold goneR
  simp [p24]
  refine callW_of (refForward_vc hh hw) (by simp [hpV]) ?_
  by_cases h1 : (fwd h w).2.2 = 0
  · by_cases h2 : (fwd h w).1 = w
    · simp [fwO, h1, h2]
    · simp [fwO, h1, h2]
  · simp [fwO, h1]
/-- the pointer to one of a heap's objects -/
def ptrR (h : Hp) (part at_ : Int) : Int :=
  if (objsR h part).1 = [] then 0 else 2 * (addrL (layH h) part ((objsR h part).1.getD (pick at_ (objsR h part).1.length).toNat default).at_).1 + 1
theorem Pointer_vc {h : Hp} (hh : h.ok) {part at_ : Int} (ha : Fit at_) : VC Try.prog 19 false [hpV h, vi part, vi at_] (vu (ptrR h part at_)) := by
  refine vc_of_wp Try.func19 follows (by kernel_rfl) c19 rfl ?_
  unfold ptrR
  simp [p19]
  refine callW_of (refObjects_vc hh) (by simp [hpV]) ?_
  have hlen := objsR_len hh part
  generalize (objsR h part).1 = l at *
  by_cases h0 : l = []
  · subst h0; simp
  have hpos : 0 < l.length := List.length_pos_iff.2 h0
  have hpk := pick_lt (c := at_) (n := (l.length : Int)) (by omega)
  have hl0 : ¬ ((l.length : Int) = 0) := by omega
  simp [h0]
  refine callW_of (refLayout_vc (h := h)) (by simp [hpV]) ?_
  simp
  refine callW_of (pick13_vc ha (n := (l.length : Int)) (by omega)) (by simp) ?_
  obtain ⟨k, hk⟩ := Int.eq_ofNat_of_zero_le hpk.1
  rw [hk] at hpk ⊢
  have hkl : k < l.length := by omega
  have hx : l[k]? = some l[k] := List.getElem?_eq_getElem hkl
  generalize hov : l[k] = o at *
  simp [hkl, hx, hov, idxV]
  refine callW_of (refAddrL_vc hh.lay (part := part) (at_ := o.at_)) (by simp) ?_
  have h63 := @addr_63 (layH h) part o.at_
  have w1 := wrap_u (2 * (addrL (layH h) part o.at_).1) (by omega) (by omega)
  have w2 := wrap_u (2 * (addrL (layH h) part o.at_).1 + 1) (by omega) (by omega)
  simp [w1, w2]
end Vm
/-
  Heaps of any words, and heaps of which one thing is turned.
-/
namespace Vm
open Go Go.Proofs
set_option linter.unusedSimpArgs false
set_option linter.unusedVariables false
set_option maxRecDepth 100000
set_option maxHeartbeats 1000000
/-- six numbers as law07's Layout takes them -/
def i6V (a b c d e f : Int) : V := .agg [vi a, vi b, vi c, vi d, vi e, vi f]
@[simp] theorem ai6_0 (k : IntKind) (a b c d e f : Int) : aiV (.agg [.int k a, .int k b, .int k c, .int k d, .int k e, .int k f]) (.int .i64 0) 6 1 false = some (.int k a) := rfl
@[simp] theorem ai6b_0 (a b c d e f : Bool) : aiV (.agg [.bool a, .bool b, .bool c, .bool d, .bool e, .bool f]) (.int .i64 0) 6 1 false = some (.bool a) := rfl
@[simp] theorem ai6_1 (k : IntKind) (a b c d e f : Int) : aiV (.agg [.int k a, .int k b, .int k c, .int k d, .int k e, .int k f]) (.int .i64 1) 6 1 false = some (.int k b) := rfl
@[simp] theorem ai6b_1 (a b c d e f : Bool) : aiV (.agg [.bool a, .bool b, .bool c, .bool d, .bool e, .bool f]) (.int .i64 1) 6 1 false = some (.bool b) := rfl
@[simp] theorem ai6_2 (k : IntKind) (a b c d e f : Int) : aiV (.agg [.int k a, .int k b, .int k c, .int k d, .int k e, .int k f]) (.int .i64 2) 6 1 false = some (.int k c) := rfl
@[simp] theorem ai6b_2 (a b c d e f : Bool) : aiV (.agg [.bool a, .bool b, .bool c, .bool d, .bool e, .bool f]) (.int .i64 2) 6 1 false = some (.bool c) := rfl
@[simp] theorem ai6_3 (k : IntKind) (a b c d e f : Int) : aiV (.agg [.int k a, .int k b, .int k c, .int k d, .int k e, .int k f]) (.int .i64 3) 6 1 false = some (.int k d) := rfl
@[simp] theorem ai6b_3 (a b c d e f : Bool) : aiV (.agg [.bool a, .bool b, .bool c, .bool d, .bool e, .bool f]) (.int .i64 3) 6 1 false = some (.bool d) := rfl
@[simp] theorem ai6_4 (k : IntKind) (a b c d e f : Int) : aiV (.agg [.int k a, .int k b, .int k c, .int k d, .int k e, .int k f]) (.int .i64 4) 6 1 false = some (.int k e) := rfl
@[simp] theorem ai6b_4 (a b c d e f : Bool) : aiV (.agg [.bool a, .bool b, .bool c, .bool d, .bool e, .bool f]) (.int .i64 4) 6 1 false = some (.bool e) := rfl
@[simp] theorem ai6_5 (k : IntKind) (a b c d e f : Int) : aiV (.agg [.int k a, .int k b, .int k c, .int k d, .int k e, .int k f]) (.int .i64 5) 6 1 false = some (.int k f) := rfl
@[simp] theorem ai6b_5 (a b c d e f : Bool) : aiV (.agg [.bool a, .bool b, .bool c, .bool d, .bool e, .bool f]) (.int .i64 5) 6 1 false = some (.bool f) := rfl
def lay7 (base a b c d e f : Int) : Ly :=
  let cap := pick a 41
  let low := pick c (cap + 1)
  let old := pick e (cap + 1)
  ⟨1 + base % (9223372036854775808 - 2 * cap), cap, pick b 2, low, pick d (cap - low + 1), old, pick f (cap - old + 1)⟩
theorem lay7_ok (base a b c d e f : Int) : rightL (lay7 base a b c d e f) = true ∧ (lay7 base a b c d e f).cap ≤ 40 := by
  have p1 := pick_lt (c := a) (n := 41) (by omega)
  have p2 := pick_lt (c := b) (n := 2) (by omega)
  have p3 := pick_lt (c := c) (n := pick a 41 + 1) (by omega)
  have p4 := pick_lt (c := d) (n := pick a 41 - pick c (pick a 41 + 1) + 1) (by omega)
  have p5 := pick_lt (c := e) (n := pick a 41 + 1) (by omega)
  have p6 := pick_lt (c := f) (n := pick a 41 - pick e (pick a 41 + 1) + 1) (by omega)
  have m1 := Int.emod_nonneg base (b := 9223372036854775808 - 2 * pick a 41) (by omega)
  have m2 := Int.emod_lt_of_pos base (b := 9223372036854775808 - 2 * pick a 41) (by omega)
  refine ⟨rightL_iff.2 ?_, by simp only [lay7]; omega⟩
  simp only [lay7]
  omega
theorem lay7_vc {base a b c d e f : Int} (hb : U64 base) (ha : Fit a) (h2 : Fit b) (hc : Fit c) (hd : Fit d) (he : Fit e) (hf : Fit f) :
    VC Try.prog 48 false [vu base, i6V a b c d e f] (lyV (lay7 base a b c d e f)) := by
  refine vc_of_wp Try.func48 follows (by kernel_rfl) c48 rfl ?_
  have p1 := pick_lt (c := a) (n := 41) (by omega)
  have p3 := pick_lt (c := c) (n := pick a 41 + 1) (by omega)
  have p4 := pick_lt (c := d) (n := pick a 41 - pick c (pick a 41 + 1) + 1) (by omega)
  have p5 := pick_lt (c := e) (n := pick a 41 + 1) (by omega)
  have p6 := pick_lt (c := f) (n := pick a 41 - pick e (pick a 41 + 1) + 1) (by omega)
  have m1 := Int.emod_nonneg base (b := 9223372036854775808 - 2 * pick a 41) (by omega)
  have m2 := Int.emod_lt_of_pos base (b := 9223372036854775808 - 2 * pick a 41) (by omega)
  unfold lay7
  have k1 := pick07_vc ha (n := 41) (by omega)
  have k2 := pick07_vc h2 (n := 2) (by omega)
  have k3 := pick07_vc hc (n := pick a 41 + 1) (by omega)
  have k4 := pick07_vc hd (n := pick a 41 - pick c (pick a 41 + 1) + 1) (by omega)
  have k5 := pick07_vc he (n := pick a 41 + 1) (by omega)
  have k6 := pick07_vc hf (n := pick a 41 - pick e (pick a 41 + 1) + 1) (by omega)
  simp only
  generalize pick a 41 = cap at *
  generalize pick c (cap + 1) = low at *
  generalize pick e (cap + 1) = old at *
  have w1 := wrap_i (cap + 1) (by omega) (by omega)
  have w2 := wrap_i (cap - low) (by omega) (by omega)
  have w3 := wrap_i (cap - low + 1) (by omega) (by omega)
  have w4 := wrap_i (cap - old) (by omega) (by omega)
  have w5 := wrap_i (cap - old + 1) (by omega) (by omega)
  have u0 := wrap_u cap (by omega) (by omega)
  have u1 := wrap_u (2 * cap) (by omega) (by omega)
  have u2 := wrap_u (9223372036854775808 - 2 * cap) (by omega) (by omega)
  have u3 := wrap_u (1 + base % (9223372036854775808 - 2 * cap)) (by omega) (by omega)
  have hne : ¬ (9223372036854775808 - 2 * cap = 0) := by omega
  have hbb := hb.1
  have u4 : base.tmod (9223372036854775808 - 2 * cap) = base % (9223372036854775808 - 2 * cap) := Int.tmod_eq_emod_of_nonneg hbb
  simp [p48, i6V]
  refine callW_of k1 (by simp) ?_
  simp
  refine callW_of k2 (by simp) ?_
  simp [u0, u1, u2, u3, u4, hne, w1]
  refine callW_of k3 (by simp) ?_
  simp [w2, w3]
  refine callW_of k4 (by simp) ?_
  simp [w1]
  refine callW_of k5 (by simp) ?_
  simp [w4, w5]
  refine callW_of k6 (by simp) ?_
  simp [lyV]
def smStep (ws : List Int) (i : Nat) (s : List Int × Nat) : List Int × Nat :=
  (s.1 ++ [if s.2 < ws.length then IntKind.u64.wrap (i + ws.getD s.2 0) else (i : Int)], if ws.length ≤ s.2 + 1 then 0 else s.2 + 1)
def smN (ws : List Int) (a : Nat) : Nat → List Int × Nat
  | 0 => ([], a)
  | i + 1 => smStep ws i (smN ws a i)
def someW (ws : List Int) (fr : Int) (n : Nat) : List Int := (smN ws (if ws = [] then 0 else (pick fr ws.length).toNat) n).1
theorem smN_len (ws : List Int) (a : Nat) : ∀ n, (smN ws a n).1.length = n
  | 0 => rfl
  | n + 1 => by simp [smN, smStep, smN_len ws a n]
theorem smN_u {ws : List Int} {a : Nat} : ∀ {n : Nat}, n ≤ 1000000 → ∀ w ∈ (smN ws a n).1, U64 w
  | 0, _ => by simp [smN]
  | n + 1, hn => by
    intro w hw
    simp only [smN, smStep, List.mem_append, List.mem_singleton] at hw
    rcases hw with hw | hw
    · exact smN_u (by omega) w hw
    · subst hw
      split
      · rw [IntKind.wrap_u64]
        unfold U64
        omega
      · unfold U64; omega
theorem smN_at {ws : List Int} {a : Nat} (ha : a < ws.length ∨ a = 0) : ∀ n, (smN ws a n).2 < ws.length ∨ (smN ws a n).2 = 0
  | 0 => ha
  | n + 1 => by
    simp only [smN, smStep]
    split
    · exact .inr rfl
    · exact .inl (by omega)
theorem some_vc {ws : List Int} (hl : ws.length ≤ 9223372036854775807) {fr : Int} (hf : Fit fr) {n : Nat} (hn : n ≤ 100000) : VC Try.prog 53 false [.sl (ws.map vu), vi fr, vi (n : Int)] (.sl ((someW ws fr n).map vu)) := by
  refine vc_of_wp Try.func53 follows (by kernel_rfl) c53 rfl ?_
  unfold someW
  obtain ⟨a, ha⟩ : ∃ a, (if ws = [] then 0 else (pick fr ws.length).toNat) = a := ⟨_, rfl⟩
  rw [ha]
  simp [p53]
  by_cases h0 : ws = []
  case' pos =>
    rw [if_pos h0] at ha
    have hz : ws.length = 0 := by rw [h0]; rfl
    have ha' : a = 0 := ha.symm
    have hal : a < ws.length ∨ a = 0 := .inr ha'
    simp [hz]
  case' neg =>
    rw [if_neg h0] at ha
    have hpos : 0 < ws.length := List.length_pos_iff.2 h0
    have hpk := pick_lt (c := fr) (n := (ws.length : Int)) (by omega)
    have k1 := pick10_vc hf (n := (ws.length : Int)) (by omega)
    have hpa : pick fr (ws.length : Int) = a := by omega
    rw [hpa] at k1 hpk
    simp [h0, hpos]
    refine callW_of k1 (by simp) ?_
    have hal : a < ws.length ∨ a = 0 := .inl (by omega)
    have ha' : True := trivial
    simp
  all_goals
    refine wpS_for 7 n (fun i => [(4, .v (.sl ((smN ws a i).1.map vu))), (5, .v (vi (smN ws a i).2)), (7, .v (vi i))]) (fun _ => True) (by simp [smN, ha']) (by simp) trivial ?_
    intro i hi _
    have hwi := wrap_i ((i : Int) + 1) (by omega) (by omega)
    have hui := wrap_u (i : Int) (by omega) (by omega)
    by_cases hlt : i < n
    · have hat := smN_at hal i
      have hln := smN_len ws a i
      have hst : smN ws a (i + 1) = smStep ws i (smN ws a i) := rfl
      rw [hst]
      unfold smStep
      generalize (smN ws a i).1 = l at *
      generalize (smN ws a i).2 = q at *
      have hwq := wrap_i ((q : Int) + 1) (by omega) (by omega)
      have hlim : l.length + 1 ≤ lim := by unfold lim; omega
      by_cases hq : q < ws.length
      · have hx : ws[q]? = some ws[q] := List.getElem?_eq_getElem hq
        generalize ws[q] = w at *
        by_cases hq2 : ws.length ≤ q + 1
        · have hq3 : (ws.length : Int) ≤ (q : Int) + 1 := by omega
          simp [hlt, hwi, hui, hq, hx, at_of hx, hwq, hq2, hq3, hlim]
        · have hq3 : ¬ (ws.length : Int) ≤ (q : Int) + 1 := by omega
          simp [hlt, hwi, hui, hq, hx, at_of hx, hwq, hq2, hq3, hlim]
      · have hq2 : ws.length ≤ q + 1 := by omega
        have hq3 : (ws.length : Int) ≤ (q : Int) + 1 := by omega
        simp [hlt, hwi, hui, hq, hwq, hq2, hq3, hlim]
    · have : i = n := by omega
      subst this
      simp
end Vm
/-
  Heaps of any words, and heaps of which one thing is turned: the whole.
-/
namespace Vm
open Go Go.Proofs
set_option linter.unusedSimpArgs false
set_option linter.unusedVariables false
set_option maxRecDepth 100000
set_option maxHeartbeats 1000000
def heap10 (l : Ly) (ws : List Int) : Hp := ⟨l.base, l.cap, l.to, false, 0, someW ws 0 l.low.toNat, someW ws 1 l.high.toNat, someW ws 2 l.old.toNat, someW ws 3 l.far.toNat, someW ws 4 3⟩
theorem someW_len (ws : List Int) (fr : Int) (n : Nat) : (someW ws fr n).length = n := smN_len _ _ _
theorem someW_u {ws : List Int} {fr : Int} {n : Nat} (hn : n ≤ 1000000) : ∀ w ∈ someW ws fr n, U64 w := smN_u hn
theorem heap10_ok {l : Ly} {ws : List Int} (hr : rightL l = true) : (heap10 l ws).ok := by
  have := rightL_iff.1 hr
  refine ⟨?_, ?_, ?_, ?_, ?_, ?_, ?_, ?_, ?_, ?_, ?_, ?_, ?_, ?_⟩
  all_goals simp only [heap10, someW_len]
  · unfold U64; omega
  · unfold Fit; omega
  · unfold Fit; omega
  · unfold Fit; omega
  · omega
  · omega
  · omega
  · omega
  · omega
  all_goals exact someW_u (by omega)
theorem heap10_vc {base a b c d e f : Int} (hb : U64 base) (ha : Fit a) (h2 : Fit b) (hc : Fit c) (hd : Fit d) (he : Fit e) (hf : Fit f) {ws : List Int} (hl : ws.length ≤ 9223372036854775807) :
    VC Try.prog 17 false [vu base, i6V a b c d e f, .sl (ws.map vu)] (hpV (heap10 (lay7 base a b c d e f) ws)) := by
  refine vc_of_wp Try.func17 follows (by kernel_rfl) c17 rfl ?_
  have k1 := lay7_vc hb ha h2 hc hd he hf
  have hr := rightL_iff.1 (lay7_ok base a b c d e f).1
  unfold i6V at *
  simp [p17]
  refine callW_of k1 (by simp) ?_
  generalize lay7 base a b c d e f = l at *
  obtain ⟨n1, e1⟩ := Int.eq_ofNat_of_zero_le hr.2.2.2.2.2.1.1
  obtain ⟨n2, e2⟩ := Int.eq_ofNat_of_zero_le hr.2.2.2.2.2.1.2.1
  obtain ⟨n3, e3⟩ := Int.eq_ofNat_of_zero_le hr.2.2.2.2.2.2.1
  obtain ⟨n4, e4⟩ := Int.eq_ofNat_of_zero_le hr.2.2.2.2.2.2.2.1
  simp [e1, e2, e3, e4]
  refine callW_of (some_vc hl (fr := 0) (by unfold Fit; omega) (n := n1) (by omega)) (by simp) ?_
  simp [e1, e2, e3, e4]
  refine callW_of (some_vc hl (fr := 1) (by unfold Fit; omega) (n := n2) (by omega)) (by simp) ?_
  simp [e1, e2, e3, e4]
  refine callW_of (some_vc hl (fr := 2) (by unfold Fit; omega) (n := n3) (by omega)) (by simp) ?_
  simp [e1, e2, e3, e4]
  refine callW_of (some_vc hl (fr := 3) (by unfold Fit; omega) (n := n4) (by omega)) (by simp) ?_
  simp [e1, e2, e3, e4]
  refine callW_of (some_vc hl (fr := 4) (by unfold Fit; omega) (n := 3) (by omega)) (by simp) ?_
  simp [hpV, heap10, e1, e2, e3, e4]
def turned (h : Hp) (which x w : Int) : Hp :=
  if pick (which.tdiv 4) 11 = 0 then { h with cycle := !h.cycle }
  else if pick (which.tdiv 4) 11 = 1 then { h with scan := x }
  else if pick (which.tdiv 4) 11 = 2 then { h with cap := x }
  else if pick (which.tdiv 4) 11 = 3 then { h with to := x }
  else if pick (which.tdiv 4) 11 = 4 then { h with roots := h.roots ++ [w] }
  else if pick (which.tdiv 4) 11 = 5 then withH h (1 + pick which 4) (partH h (1 + pick which 4) ++ [w])
  else if pick (which.tdiv 4) 11 = 6 then withH h (1 + pick which 4) ((partH h (1 + pick which 4)).take (pick x ((partH h (1 + pick which 4)).length + 1)).toNat)
  else if partH h (1 + pick which 4) = [] then h
  else withH h (1 + pick which 4) ((partH h (1 + pick which 4)).set (pick x (partH h (1 + pick which 4)).length).toNat w)
theorem withH_ok {h : Hp} (hh : h.ok) {k : Int} {l : List Int} (h1 : l.length ≤ 1000000) (h2 : ∀ w ∈ l, U64 w) : (withH h k l).ok := by
  obtain ⟨a1, a2, a3, a4, a5, a6, a7, a8, a9, b1, b2, b3, b4, b5⟩ := hh
  unfold withH
  split
  · exact ⟨a1, a2, a3, a4, h1, a6, a7, a8, a9, h2, b2, b3, b4, b5⟩
  split
  · exact ⟨a1, a2, a3, a4, a5, h1, a7, a8, a9, b1, h2, b3, b4, b5⟩
  split
  · exact ⟨a1, a2, a3, a4, a5, a6, h1, a8, a9, b1, b2, h2, b4, b5⟩
  · exact ⟨a1, a2, a3, a4, a5, a6, a7, h1, a9, b1, b2, b3, h2, b5⟩
theorem turned_ok {h : Hp} (hh : h.ok) (hs : ∀ k, (partH h k).length ≤ 999999) (hro : h.roots.length ≤ 999999) {which x w : Int} (hx : Fit x) (hw : U64 w) : (turned h which x w).ok := by
  have hp := partH_ok hh (1 + pick which 4)
  have hs := hs (1 + pick which 4)
  have hho := hh
  obtain ⟨a1, a2, a3, a4, a5, a6, a7, a8, a9, b1, b2, b3, b4, b5⟩ := hh
  unfold turned
  split
  · exact ⟨a1, a2, a3, a4, a5, a6, a7, a8, a9, b1, b2, b3, b4, b5⟩
  split
  · exact ⟨a1, a2, a3, hx, a5, a6, a7, a8, a9, b1, b2, b3, b4, b5⟩
  split
  · exact ⟨a1, hx, a3, a4, a5, a6, a7, a8, a9, b1, b2, b3, b4, b5⟩
  split
  · exact ⟨a1, a2, hx, a4, a5, a6, a7, a8, a9, b1, b2, b3, b4, b5⟩
  split
  · refine ⟨a1, a2, a3, a4, a5, a6, a7, a8, by simp; omega, b1, b2, b3, b4, ?_⟩
    intro v hv
    rcases List.mem_append.1 hv with hv | hv
    · exact b5 v hv
    · simp at hv; subst hv; exact hw
  split
  · refine withH_ok hho (by simp; omega) ?_
    intro v hv
    rcases List.mem_append.1 hv with hv | hv
    · exact hp.1 v hv
    · simp at hv; subst hv; exact hw
  split
  · exact withH_ok hho (by simp; omega) fun v hv => hp.1 v (List.mem_of_mem_take hv)
  split
  · exact hho
  · refine withH_ok hho (by simp; omega) fun v hv => ?_
    rcases List.mem_or_eq_of_mem_set hv with hv | hv
    · exact hp.1 v hv
    · subst hv; exact hw
theorem tdiv4_fit {c : Int} (h : Fit c) : Fit (c.tdiv 4) := by
  unfold Fit at *
  rcases Int.le_total 0 c with h0 | h0
  · rw [Int.tdiv_eq_ediv_of_nonneg h0]; omega
  · have e : c = -(-c) := by omega
    have : c.tdiv 4 = -((-c) / 4) := by
      conv => lhs; rw [e]
      rw [Int.neg_tdiv, Int.tdiv_eq_ediv_of_nonneg (by omega)]
    omega
theorem Turned_vc {h : Hp} (hh : h.ok) {which x w : Int} (hwh : Fit which) (hx : Fit x) : VC Try.prog 18 false [hpV h, vi which, vi x, vu w] (hpV (turned h which x w)) := by
  refine vc_of_wp Try.func18 follows (by kernel_rfl) c18 rfl ?_
  have hpk := pick_lt (c := which) (n := 4) (by omega)
  have hq : Fit (which.tdiv 4) := by
    exact tdiv4_fit hwh
  have hpl := (partH_ok hh (1 + pick which 4)).2
  unfold turned
  simp [p18]
  refine callW_of (pick11_vc hwh (n := 4) (by omega)) (by simp) ?_
  have w1 := wrap_i (1 + pick which 4) (by omega) (by omega)
  have w2 := wrap_i (which.tdiv 4) (by unfold Fit at hq; omega) (by unfold Fit at hq; omega)
  simp [w1]
  refine callW_of (Part_vc (h := h) (n := 1 + pick which 4)) (by simp [hpV]) ?_
  have k5 := fun l => With_vc (h := h) (n := 1 + pick which 4) (l := l)
  generalize partH h (1 + pick which 4) = l at *
  generalize 1 + pick which 4 = part at *
  have hlim : l.length + 1 ≤ lim := by unfold lim; omega
  have hlim' : l.length ≤ lim := by unfold lim; omega
  have hrl : h.roots.length + 1 ≤ lim := by have := hh.roots; unfold lim; omega
  have hrl' : h.roots.length ≤ lim := by omega
  simp [hlim', w2]
  refine callW_of (pick11_vc hq (n := 11) (by omega)) (by simp) ?_
  generalize pick (which.tdiv 4) 11 = q at *
  unfold hpV at k5
  by_cases h0 : q = 0
  · simp [h0, hpV]
  by_cases h1 : q = 1
  · simp [h1, hpV]
  by_cases h2 : q = 2
  · simp [h2, hpV]
  by_cases h3 : q = 3
  · simp [h3, hpV]
  by_cases h4 : q = 4
  · simp [h4, hpV, hrl, hrl']
  by_cases h5 : q = 5
  · have k6 := k5 (l ++ [w])
    simp at k6
    simp [h5, hlim]
    refine callW_of k6 (by simp) ?_
    simp [hpV]
  by_cases h6 : q = 6
  · have hpp := pick_lt (c := x) (n := (l.length : Int) + 1) (by omega)
    have w3 := wrap_i ((l.length : Int) + 1) (by omega) (by omega)
    simp [h6, w3]
    refine callW_of (pick11_vc hx (n := (l.length : Int) + 1) (by omega)) (by simp) ?_
    obtain ⟨m, hm⟩ := Int.eq_ofNat_of_zero_le hpp.1
    rw [hm] at hpp ⊢
    have k6 := k5 (l.take m)
    simp at k6
    simp [show m ≤ l.length by omega]
    refine callW_of k6 (by simp) ?_
    simp [hpV]
  simp [h0, h1, h2, h3, h4, h5, h6]
  by_cases h7 : l = []
  · simp [h7, hpV]
  · have hpos : 0 < l.length := List.length_pos_iff.2 h7
    have hpp := pick_lt (c := x) (n := (l.length : Int)) (by omega)
    simp [h7, hpos]
    refine callW_of (pick11_vc hx (n := (l.length : Int)) (by omega)) (by simp) ?_
    obtain ⟨m, hm⟩ := Int.eq_ofNat_of_zero_le hpp.1
    rw [hm] at hpp ⊢
    have k6 := k5 (l.set m w)
    simp at k6
    simp [show m < l.length by omega]
    refine callW_of k6 (by simp) ?_
    simp [hpV]
end Vm
