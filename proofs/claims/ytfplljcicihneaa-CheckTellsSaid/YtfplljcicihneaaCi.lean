/-
  Layer 13's first law, given what Forward answers (FwdOk: by hand, elsewhere).
-/
import Derived.Test.YtfplljcicihneaaC5
import Derived.Test.YtfplljcicihneaaHi
namespace Vm
open Go Go.Proofs
set_option linter.unusedSimpArgs false
set_option linter.unusedVariables false
set_option maxRecDepth 100000
set_option maxHeartbeats 1000000
/-- the program's Forward answers what the document says -/
def FwdOk : Prop := ∀ (h : Hp) (w : Int), h.ok → U64 w → VC Try.prog 20 false [hpV h, vu w] (fwO (fwd h w))
theorem Hp.zero_ok : Hp.zero.ok := by
  refine ⟨?_, ?_, ?_, ?_, ?_, ?_, ?_, ?_, ?_, ?_, ?_, ?_, ?_, ?_⟩ <;> simp [Hp.zero, U64, Fit]
theorem moved_ok {h : Hp} (hh : h.ok) {part : Int} {a n : Nat} (h1 : a + n ≤ (partH h part).length) (h2 : (n : Int) ≤ roomL (layH h)) (hn : 0 < n) : (movedH h part a n).ok := by
  have hrl : rightL (layH h) = true := by
    cases hr : rightL (layH h)
    · have : roomL (layH h) = 0 := by unfold roomL; rw [hr]; rfl
      omega
    · rfl
  have hrm : roomL (layH h) = (layH h).cap - (layH h).low - (layH h).high := by unfold roomL; rw [hrl]; rfl
  have hri := rightL_iff.1 hrl
  have q1 : (layH h).low = h.low.length := rfl
  have q2 : (layH h).high = h.high.length := rfl
  refine ⟨hh.base, hh.cap, hh.to, hh.scan, ?_, hh.high, hh.old, hh.far, hh.roots, ?_, hh.highW, hh.oldW, hh.farW, hh.rootsW⟩
  · simp only [movedH, List.length_append, List.length_drop, List.length_take]
    omega
  · intro w hw
    simp only [movedH] at hw
    rcases List.mem_append.1 hw with hw | hw
    · exact hh.lowW w hw
    · exact (partH_ok hh part).1 w (List.mem_of_mem_take (List.mem_of_mem_drop hw))
theorem zr_u {ws : List Int} {a : Nat} (h : ∀ w ∈ ws, U64 w) : ∀ n, ∀ w ∈ zr ws a n, U64 w
  | 0 => h
  | n + 1 => by
    intro w hw
    rcases List.mem_or_eq_of_mem_set hw with hw | hw
    · exact zr_u h n w hw
    · subst hw; unfold U64; omega
theorem fwdC_ok {h : Hp} (hh : h.ok) {part : Int} {a n : Nat} (hn : 0 < n) : (fwdC h part a n).2.1.ok ∧ U64 (fwdC h part a n).1 := by
  unfold fwdC
  split
  · exact ⟨Hp.zero_ok, by simp [U64]⟩
  split
  · exact ⟨Hp.zero_ok, by simp [U64]⟩
  · rename_i g1 g2
    have hp := partH_ok hh part
    refine ⟨withH_ok (moved_ok hh (by omega) (by omega) hn) (by simp; omega) ?_, ptrTo_u⟩
    intro w hw
    rcases List.mem_or_eq_of_mem_set hw with hw | hw
    · exact zr_u hp.1 _ w hw
    · subst hw; exact ptrTo_u
theorem fwd_ok {h : Hp} (hh : h.ok) {w : Int} (hw : U64 w) : (fwd h w).2.1.ok ∧ U64 (fwd h w).1 := by
  unfold fwd
  split
  · exact ⟨Hp.zero_ok, by simp [U64]⟩
  split
  · exact ⟨hh, by simp [U64]⟩
  split
  · exact ⟨Hp.zero_ok, by simp [U64]⟩
  split
  · exact ⟨Hp.zero_ok, by simp [U64]⟩
  split
  · exact ⟨hh, hw⟩
  split
  · refine ⟨hh, ?_⟩
    generalize (findL (layH h) (adr w).1).2.1.toNat = k
    have hp := (partH_ok hh (findL (layH h) (adr w).1).1).1
    generalize partH h (findL (layH h) (adr w).1).1 = ws at *
    by_cases hk : k < ws.length
    · have e : ws.getD k 0 = ws[k] := by simp [List.getD, hk]
      simp only [e]
      exact hp _ (List.getElem_mem hk)
    · have e : ws.getD k 0 = 0 := by simp [List.getD, hk]
      simp only [e]
      unfold U64; omega
  split
  · exact ⟨Hp.zero_ok, by simp [U64]⟩
  · exact fwdC_ok hh (by omega)
theorem Gone_vc (hF : FwdOk) {h : Hp} (hh : h.ok) {w : Int} (hw : U64 w) : VC Try.prog 23 false [hpV h, vu w] (.bool (goneR h w)) := by
  refine vc_of_wp Try.func23 follows (by kernel_rfl) c23 rfl ?_
  unfold goneR
  simp [p23]
  refine callW_of (hF h w hh hw) (by simp [hpV]) ?_
  by_cases h1 : (fwd h w).2.2 = 0
  · by_cases h2 : (fwd h w).1 = w
    · simp [fwO, h1, h2]
    · simp [fwO, h1, h2]
  · simp [fwO, h1]
theorem heapX_ok {x : Rw} (hx : x.ok) : (heapX x).ok ∧ rightL (layH (heapX x)) = true ∧ (heapX x).roots.length ≤ 5 := by
  have key : ∀ c, (fillH x (standB x c)).ok ∧ rightL (layH (fillH x (standB x c))) = true ∧ (fillH x (standB x c)).roots.length ≤ 5 := fun c => by
    obtain ⟨h1, h2, h3⟩ := stand_ok hx c
    obtain ⟨k1, k2, _, _⟩ := fillH_ok (x := x) h1 h2
    refine ⟨k1, by rw [k2]; exact h3, ?_⟩
    simp only [fillH, List.length_map]
    exact h1.rl
  unfold heapX stillX
  split
  · exact key false
  · exact key true
theorem right_len {h : Hp} (hr : rightL (layH h) = true) (k : Int) : (partH h k).length ≤ 4096 := by
  have := rightL_iff.1 hr
  have q1 : (layH h).low = h.low.length := rfl
  have q2 : (layH h).high = h.high.length := rfl
  have q3 : (layH h).old = h.old.length := rfl
  have q4 : (layH h).far = h.far.length := rfl
  unfold partH
  split
  · omega
  split
  · omega
  split <;> omega
def exH : Hp := ⟨10, 5, 1, false, 0, [], [], [2, 6], [], []⟩
def exG : Hp := ⟨10, 5, 1, false, 0, [2, 6], [], [31, 0], [], []⟩
theorem exH_ok : exH.ok := by
  refine ⟨?_, ?_, ?_, ?_, ?_, ?_, ?_, ?_, ?_, ?_, ?_, ?_, ?_, ?_⟩ <;> simp [exH, U64, Fit]
theorem exG_ok : exG.ok := by
  refine ⟨?_, ?_, ?_, ?_, ?_, ?_, ?_, ?_, ?_, ?_, ?_, ?_, ?_, ?_⟩ <;> simp [exG, U64, Fit]
theorem awake13_vc (hF : FwdOk) : VC Try.prog 15 false [] (.bool true) := by
  refine vc_of_wp Try.func15 follows (by kernel_rfl) c15 rfl ?_
  have e1 : fwd exH 21 = (31, exG, 0) := by decide +kernel
  have e2 : fwd exG 21 = (31, exG, 0) := by decide +kernel
  have e3 : fwd exH 25 = (0, Hp.zero, 6) := by decide +kernel
  have e4 : fwd exH 4 = (0, Hp.zero, 3) := by decide +kernel
  have e5 : fwd Hp.zero 0 = (0, Hp.zero, 1) := by decide +kernel
  have e6 : fwd exH 0 = (0, exH, 0) := by decide +kernel
  have g1 : goneR exG 31 = true := by decide +kernel
  have g2 : goneR exG 21 = false := by decide +kernel
  have g3 : goneR exH 0 = true := by decide +kernel
  have f1 := hF exH 21 exH_ok (by simp [U64])
  have f2 := hF exG 21 exG_ok (by simp [U64])
  have f3 := hF exH 25 exH_ok (by simp [U64])
  have f4 := hF exH 4 exH_ok (by simp [U64])
  have f5 := hF Hp.zero 0 Hp.zero_ok (by simp [U64])
  have f6 := hF exH 0 exH_ok (by simp [U64])
  rw [e1] at f1
  rw [e2] at f2
  rw [e3] at f3
  rw [e4] at f4
  rw [e5] at f5
  rw [e6] at f6
  have k1 := Gone_vc hF exG_ok (w := 31) (by simp [U64])
  have k2 := Gone_vc hF exG_ok (w := 21) (by simp [U64])
  have k3 := Gone_vc hF exH_ok (w := 0) (by simp [U64])
  rw [g1] at k1
  rw [g2] at k2
  rw [g3] at k3
  have s1 := sameH_vc (b := exG) exG_ok
  simp [exH, exG, Hp.zero, hpV, fwO] at f1 f2 f3 f4 f5 f6 k1 k2 k3 s1
  simp [p15]
  refine callW_of f1 (by simp) ?_
  simp
  refine callW_of f2 (by simp) ?_
  simp
  refine callW_of f3 (by simp) ?_
  simp
  refine callW_of f4 (by simp) ?_
  simp
  refine callW_of f5 (by simp) ?_
  simp
  refine callW_of f6 (by simp) ?_
  simp
  refine callW_of s1 (by simp) ?_
  simp
  refine callW_of s1 (by simp) ?_
  simp
  refine callW_of k1 (by simp) ?_
  simp
  refine callW_of k2 (by simp) ?_
  simp
  refine callW_of k3 (by simp) ?_
  simp
@[simp] theorem fldsV_hpV (h : Hp) : fldsV (hpV h) 0 10 = some (hpV h) := rfl
@[simp] theorem sizeOk_hpV (l : List Hp) : sizeOk 10 (l.map hpV) = true := sizeOk_map fun _ => rfl
theorem ptrR_u {h : Hp} {part k : Int} : U64 (ptrR h part k) := by
  unfold ptrR
  split
  · simp [U64]
  · have := @addr_63 (layH h) part ((objsR h part).1.getD (pick k (objsR h part).1.length).toNat default).at_
    unfold U64
    omega
theorem wrap_u64in (n : Int) : U64 (IntKind.u64.wrap n) := by
  rw [IntKind.wrap_u64]
  unfold U64
  omega
theorem law13Tells (hF : FwdOk) {x : Rw} (hx : x.ok) {base a b c d e f : Int} (hb : U64 base) (ha : Fit a) (h2 : Fit b) (hc : Fit c) (hd : Fit d) (he : Fit e) (hf : Fit f) {ws : List Int} (hl : ws.length ≤ 9223372036854775807)
    {which k w address : Int} (hwh : Fit which) (hk : Fit k) (hw : U64 w) (had : U64 address) :
    VC Try.prog 3 false [rwV x, vu base, i6V a b c d e f, .sl (ws.map vu), vi which, vi k, vu w, vu address] (.bool true) := by
  refine vc_of_wp Try.func3 follows (by kernel_rfl) c3 rfl ?_
  have kk := heap10_vc hb ha h2 hc hd he hf hl
  have ok2 : (heap10 (lay7 base a b c d e f) ws).ok := heap10_ok (lay7_ok base a b c d e f).1
  unfold i6V at *
  simp [p3]
  refine callW_of (awake13_vc hF) (by simp) ?_
  simp
  refine callW_of (Heap_vc hx) (by simp [rwV]) ?_
  simp
  refine callW_of kk (by simp) ?_
  simp
  obtain ⟨ok1, hr1, hro⟩ := heapX_ok hx
  have ok3 := turned_ok ok1 (fun k => Nat.le_trans (right_len hr1 k) (by omega)) (by omega) (which := which) hk hw
  have kt := Turned_vc ok1 (w := w) hwh hk
  have kp := fun part => Pointer_vc ok1 (part := part) hk
  generalize heapX x = own at *
  generalize heap10 (lay7 base a b c d e f) ws = any at *
  refine callW_of kt (by simp [hpV]) ?_
  generalize turned own which k w = tur at *
  simp
  have e0 : [V.agg [vu own.base, vi own.cap, vi own.to, V.bool own.cycle, vi own.scan, .sl (own.low.map vu), .sl (own.high.map vu), .sl (own.old.map vu), .sl (own.far.map vu), .sl (own.roots.map vu)], hpV any, hpV tur] = [own, any, tur].map hpV := rfl
  rw [e0]
  have hall : ∀ h ∈ [own, any, tur], h.ok := by
    intro h hh
    simp at hh
    rcases hh with rfl | rfl | rfl <;> assumption
  have hl3 : [own, any, tur].length = 3 := rfl
  generalize [own, any, tur] = hs at *
  refine wpS_for0 13 3 (fun _ => True) (by simp) (by simp) trivial ?_
  intro i hi _
  have hwi := wrap_i ((i : Int) + 1) (by omega) (by omega)
  by_cases hlt : i < 3
  case neg =>
    have : i = 3 := by omega
    subst this
    simp
  have hx3 : i < hs.length := by omega
  have hxi : hs[i]? = some hs[i] := List.getElem?_eq_getElem hx3
  have hok := hall _ (List.getElem_mem hx3)
  generalize hs[i] = h at *
  have hlt' : (i : Int) < 3 := by omega
  simp [hlt, hlt', hx3, hxi, at_of hxi, hwi]
  generalize hq : (if (5000 : Int) < if h.cap < 0 then 0 else h.cap then 5000 else if h.cap < 0 then 0 else h.cap) = q
  have hqb : 0 ≤ q ∧ q ≤ 5000 := by
    rw [← hq]
    split
    · omega
    · split <;> omega
  have u1 := wrap_u q (by omega) (by omega)
  have u2 := wrap_u (2 * q) (by omega) (by omega)
  have u3 := wrap_u (2 * q + 2) (by omega) (by omega)
  rw [u1, u2, u3]
  refine ⟨by omega, ?_⟩
  generalize IntKind.u64.wrap (h.base + address.tmod (2 * q + 2)) = a1
  have k3 := kp 3
  have k4 := kp 4
  have k1 := kp 1
  unfold hpV at k1 k3 k4
  refine callW_of k3 (by simp) ?_
  simp
  refine callW_of k4 (by simp) ?_
  simp
  refine callW_of k1 (by simp) ?_
  simp
  have hv2 := wrap_u64in (IntKind.u64.wrap (2 * a1) + 1)
  generalize IntKind.u64.wrap (IntKind.u64.wrap (2 * a1) + 1) = v2 at *
  have p3 := @ptrR_u own 3 k
  have p4 := @ptrR_u own 4 k
  have p1 := @ptrR_u own 1 k
  generalize ptrR own 3 k = w3 at *
  generalize ptrR own 4 k = w4 at *
  generalize ptrR own 1 k = w1 at *
  have e1 : [V.int IntKind.u64 w, V.int IntKind.u64 v2, V.int IntKind.u64 w3, V.int IntKind.u64 w4, V.int IntKind.u64 w1, V.int IntKind.u64 0] = [w, v2, w3, w4, w1, 0].map vu := rfl
  rw [e1]
  have hall2 : ∀ v ∈ [w, v2, w3, w4, w1, 0], U64 v := by
    intro v hv
    simp at hv
    rcases hv with rfl | rfl | rfl | rfl | rfl | rfl <;> first | assumption | simp [U64]
  have hl6 : [w, v2, w3, w4, w1, 0].length = 6 := rfl
  generalize [w, v2, w3, w4, w1, 0] = vs at *
  refine wpS_for0 19 6 (fun _ => True) (by simp) (by simp) trivial ?_
  intro j hj _
  have hwj := wrap_i ((j : Int) + 1) (by omega) (by omega)
  by_cases hjt : j < 6
  case neg =>
    have : j = 6 := by omega
    subst this
    simp [hlt, hwi]
  have hjl : j < vs.length := by omega
  have hxj : vs[j]? = some vs[j] := List.getElem?_eq_getElem hjl
  have hu := hall2 _ (List.getElem_mem hjl)
  generalize vs[j] = v at *
  have hjt' : (j : Int) < 6 := by omega
  have f1 := hF h v hok hu
  have f2 := refForward_vc hok hu
  have fo := (fwd_ok hok hu).1
  have f3 := sameH_vc (b := (fwd h v).2.1) fo
  have f4 := Gone_vc hF hok hu
  have f5 := refGone_vc hok hu
  simp [hjt, hjt', hjl, hxj, at_of hxj, hwj]
  refine callW_of f1 (by simp [hpV]) ?_
  simp [fwO]
  refine callW_of f2 (by simp [hpV]) ?_
  simp [fwO]
  refine callW_of f3 (by simp [hpV]) ?_
  simp
  refine callW_of f4 (by simp [hpV]) ?_
  simp
  refine callW_of f5 (by simp [hpV]) ?_
  simp [hwj]
end Vm
