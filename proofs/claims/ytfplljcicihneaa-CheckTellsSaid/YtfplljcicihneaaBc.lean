/-
  Heaps (layer 10, and the document's): layouts, parts, the same ones; which of n things a raw number speaks of.
-/
import Derived.Test.YtfplljcicihneaaBb
import Derived.Test.YtfplljcicihneaaHc
namespace Vm
open Go Go.Proofs
set_option linter.unusedSimpArgs false
set_option linter.unusedVariables false
set_option maxRecDepth 100000
structure Hp where
  base : Int
  cap : Int
  to : Int
  cycle : Bool
  scan : Int
  low : List Int
  high : List Int
  old : List Int
  far : List Int
  roots : List Int
  deriving DecidableEq, Inhabited
def hpCs (h : Hp) : List V := [vu h.base, vi h.cap, vi h.to, .bool h.cycle, vi h.scan, .sl (h.low.map vu), .sl (h.high.map vu), .sl (h.old.map vu), .sl (h.far.map vu), .sl (h.roots.map vu)]
def hpV (h : Hp) : V := .agg [vu h.base, vi h.cap, vi h.to, .bool h.cycle, vi h.scan, .sl (h.low.map vu), .sl (h.high.map vu), .sl (h.old.map vu), .sl (h.far.map vu), .sl (h.roots.map vu)]
@[simp] theorem szV_hpV (h : Hp) : szV (hpV h) 10 = some (hpV h) := rfl
@[simp] theorem hpV_cells (h : Hp) : (hpV h).cells = [vu h.base, vi h.cap, vi h.to, .bool h.cycle, vi h.scan, .sl (h.low.map vu), .sl (h.high.map vu), .sl (h.old.map vu), .sl (h.far.map vu), .sl (h.roots.map vu)] := rfl
@[simp] theorem fldV_hpV0 (h : Hp) : fldV (hpV h) 0 = some (vu h.base) := rfl
@[simp] theorem fldV_hpV1 (h : Hp) : fldV (hpV h) 1 = some (vi h.cap) := rfl
@[simp] theorem fldV_hpV2 (h : Hp) : fldV (hpV h) 2 = some (vi h.to) := rfl
@[simp] theorem fldV_hpV3 (h : Hp) : fldV (hpV h) 3 = some (.bool h.cycle) := rfl
@[simp] theorem fldV_hpV4 (h : Hp) : fldV (hpV h) 4 = some (vi h.scan) := rfl
@[simp] theorem fldV_hpV5 (h : Hp) : fldV (hpV h) 5 = some (.sl (h.low.map vu)) := rfl
@[simp] theorem fldV_hpV6 (h : Hp) : fldV (hpV h) 6 = some (.sl (h.high.map vu)) := rfl
@[simp] theorem fldV_hpV7 (h : Hp) : fldV (hpV h) 7 = some (.sl (h.old.map vu)) := rfl
@[simp] theorem fldV_hpV8 (h : Hp) : fldV (hpV h) 8 = some (.sl (h.far.map vu)) := rfl
@[simp] theorem fldV_hpV9 (h : Hp) : fldV (hpV h) 9 = some (.sl (h.roots.map vu)) := rfl
def layH (h : Hp) : Ly := ⟨h.base, h.cap, h.to, h.low.length, h.high.length, h.old.length, h.far.length⟩
/-- no list of it is long; its numbers are such -/
structure Hp.ok (h : Hp) : Prop where
  base : U64 h.base
  cap : Fit h.cap
  to : Fit h.to
  scan : Fit h.scan
  low : h.low.length ≤ 1000000
  high : h.high.length ≤ 1000000
  old : h.old.length ≤ 1000000
  far : h.far.length ≤ 1000000
  roots : h.roots.length ≤ 1000000
  lowW : ∀ w ∈ h.low, U64 w
  highW : ∀ w ∈ h.high, U64 w
  oldW : ∀ w ∈ h.old, U64 w
  farW : ∀ w ∈ h.far, U64 w
  rootsW : ∀ w ∈ h.roots, U64 w
theorem fit_len {α : Type} {l : List α} (h : l.length ≤ 1000000) : Fit (l.length : Int) := ⟨by omega, by omega⟩
theorem Hp.ok.lay {h : Hp} (hh : h.ok) : (layH h).fits := ⟨hh.base, hh.cap, hh.to, fit_len hh.low, fit_len hh.high, fit_len hh.old, fit_len hh.far⟩
theorem Layout_vc {h : Hp} : VC Try.prog 54 false [hpV h] (lyV (layH h)) := by
  refine vc_of_wp Try.func54 follows (by kernel_rfl) c54 rfl ?_
  simp [p54, lyV, layH]
theorem refLayout_vc {h : Hp} : VC Try.prog 38 false [hpV h] (lyV (layH h)) := by
  refine vc_of_wp Try.func38 follows (by kernel_rfl) c38 rfl ?_
  simp [p38, lyV, layH]
def partH (h : Hp) (n : Int) : List Int := if n = 1 then h.low else if n = 2 then h.high else if n = 3 then h.old else h.far
@[simp] theorem partH1 (h : Hp) : partH h 1 = h.low := rfl
@[simp] theorem partH2 (h : Hp) : partH h 2 = h.high := rfl
@[simp] theorem partH3 (h : Hp) : partH h 3 = h.old := rfl
@[simp] theorem partH4 (h : Hp) : partH h 4 = h.far := rfl
theorem Part_vc {h : Hp} {n : Int} : VC Try.prog 28 false [hpV h, vi n] (.sl ((partH h n).map vu)) := by
  refine vc_of_wp Try.func28 follows (by kernel_rfl) c28 rfl ?_
  by_cases h1 : n = 1
  · simp [p28, partH, h1]
  by_cases h2 : n = 2
  · simp [p28, partH, h2]
  by_cases h3 : n = 3 <;> simp [p28, partH, h1, h2, h3]
def withH (h : Hp) (n : Int) (l : List Int) : Hp := if n = 1 then { h with low := l } else if n = 2 then { h with high := l } else if n = 3 then { h with old := l } else { h with far := l }
@[simp] theorem withH1 (h : Hp) (l : List Int) : withH h 1 l = { h with low := l } := rfl
@[simp] theorem withH2 (h : Hp) (l : List Int) : withH h 2 l = { h with high := l } := rfl
@[simp] theorem withH3 (h : Hp) (l : List Int) : withH h 3 l = { h with old := l } := rfl
@[simp] theorem withH4 (h : Hp) (l : List Int) : withH h 4 l = { h with far := l } := rfl
theorem With_vc {h : Hp} {n : Int} {l : List Int} : VC Try.prog 27 false [hpV h, vi n, .sl (l.map vu)] (hpV (withH h n l)) := by
  refine vc_of_wp Try.func27 follows (by kernel_rfl) c27 rfl ?_
  by_cases h1 : n = 1
  · simp [p27, withH, h1, hpV]
  by_cases h2 : n = 2
  · simp [p27, withH, h2, hpV]
  by_cases h3 : n = 3 <;> simp [p27, withH, h1, h2, h3, hpV]
theorem take_succ_eq {α : Type} {a b : List α} {i : Nat} (h : a.take i = b.take i) (hx : a[i]? = b[i]?) : a.take (i + 1) = b.take (i + 1) := by
  rw [List.take_add_one, List.take_add_one, h, hx]
theorem ne_at {α : Type} {a b : List α} {i : Nat} (h : a[i]? ≠ b[i]?) : a ≠ b := fun e => h (by rw [e])
theorem nums_vc {a b : List Int} (ha : a.length ≤ 1000000) : VC Try.prog 42 false [.sl (a.map vu), .sl (b.map vu)] (.bool (decide (a = b))) := by
  refine vc_of_wp Try.func42 follows (by kernel_rfl) c42 rfl ?_
  by_cases hl : a.length = b.length
  · simp [p42, hl]
    refine wpS_for0 4 b.length (fun i => a.take i = b.take i) (by simp) (by simp) (by simp) ?_
    intro i hi heq
    have hw := wrap_i ((i : Int) + 1) (by omega) (by omega)
    by_cases h : i < b.length
    · have h' : i < a.length := by omega
      by_cases hx : a[i] = b[i]
      · simp [h, h', hx, hw]
        exact take_succ_eq heq (by simp [h, h', hx])
      · simp [h, h', hx]
        exact ne_at (i := i) (by simp [h, h', hx])
    · have : i = b.length := by omega
      subst this
      rw [List.take_length, List.take_of_length_le (by omega)] at heq
      simp [heq]
  · simp [p42, show ¬ ((a.length : Int) = (b.length : Int)) by omega]
    intro e; subst e; exact hl rfl
theorem sameH_vc {a b : Hp} (ha : a.ok) : VC Try.prog 22 false [hpV a, hpV b] (.bool (decide (a = b))) := by
  refine vc_of_wp Try.func22 follows (by kernel_rfl) c22 rfl ?_
  simp [p22]
  have hp : ∀ k, (partH a k).length ≤ 1000000 := fun k => by
    unfold partH
    split
    · exact ha.low
    split
    · exact ha.high
    split
    · exact ha.old
    · exact ha.far
  by_cases g1 : a.base = b.base
  case neg =>
    have : a ≠ b := fun e => g1 (by rw [e])
    simp [g1, this]
  by_cases g2 : a.cap = b.cap
  case neg =>
    have : a ≠ b := fun e => g2 (by rw [e])
    simp [g1, g2, this]
  by_cases g3 : a.to = b.to
  case neg =>
    have : a ≠ b := fun e => g3 (by rw [e])
    simp [g1, g2, g3, this]
  by_cases g4 : a.cycle = b.cycle
  case neg =>
    have : a ≠ b := fun e => g4 (by rw [e])
    have g4' : (a.cycle == b.cycle) = false := by simpa using g4
    simp [g1, g2, g3, g4, g4', this]
  by_cases g5 : a.scan = b.scan
  case neg =>
    have : a ≠ b := fun e => g5 (by rw [e])
    simp [g1, g2, g3, g4, g5, this]
  simp [g1, g2, g3, g4, g5]
  refine wpS_loopP (fun (i : Nat) => [(6, .v (vi ((i + 1 : Nat) : Int)))]) (fun i => i ≤ 4 ∧ (0 < i → a.low = b.low) ∧ (1 < i → a.high = b.high) ∧ (2 < i → a.old = b.old) ∧ (3 < i → a.far = b.far)) (cnt 6 5) 0 (by simp) (by simp) ?_
  rintro i ⟨hi, i1, i2, i3, i4⟩
  have hi' : i = 0 ∨ i = 1 ∨ i = 2 ∨ i = 3 ∨ i = 4 := by omega
  rcases hi' with rfl | rfl | rfl | rfl | rfl
  · simp
    refine callW_of (Part_vc (h := ⟨b.base, b.cap, b.to, b.cycle, b.scan, a.low, a.high, a.old, a.far, a.roots⟩) (n := 1)) (by simp [hpV]) ?_
    simp
    refine callW_of (Part_vc (h := b) (n := 1)) (by simp [hpV]) ?_
    simp
    refine callW_of (nums_vc (b := b.low) (hp 1)) (by simp) ?_
    by_cases hx : a.low = b.low
    · simp [hx, wrap_i]
      exact ⟨1, by simp [hx], by simp, by simp [cnt]⟩
    · have : a ≠ b := fun e => hx (by rw [e])
      simp [hx, this]
  · simp
    refine callW_of (Part_vc (h := ⟨b.base, b.cap, b.to, b.cycle, b.scan, a.low, a.high, a.old, a.far, a.roots⟩) (n := 2)) (by simp [hpV]) ?_
    simp
    refine callW_of (Part_vc (h := b) (n := 2)) (by simp [hpV]) ?_
    simp
    refine callW_of (nums_vc (b := b.high) (hp 2)) (by simp) ?_
    by_cases hx : a.high = b.high
    · simp [hx, wrap_i]
      exact ⟨2, by simp [hx, i1 (by omega)], by simp, by simp [cnt]⟩
    · have : a ≠ b := fun e => hx (by rw [e])
      simp [hx, this]
  · simp
    refine callW_of (Part_vc (h := ⟨b.base, b.cap, b.to, b.cycle, b.scan, a.low, a.high, a.old, a.far, a.roots⟩) (n := 3)) (by simp [hpV]) ?_
    simp
    refine callW_of (Part_vc (h := b) (n := 3)) (by simp [hpV]) ?_
    simp
    refine callW_of (nums_vc (b := b.old) (hp 3)) (by simp) ?_
    by_cases hx : a.old = b.old
    · simp [hx, wrap_i]
      exact ⟨3, by simp [hx, i1 (by omega), i2 (by omega)], by simp, by simp [cnt]⟩
    · have : a ≠ b := fun e => hx (by rw [e])
      simp [hx, this]
  · simp
    refine callW_of (Part_vc (h := ⟨b.base, b.cap, b.to, b.cycle, b.scan, a.low, a.high, a.old, a.far, a.roots⟩) (n := 4)) (by simp [hpV]) ?_
    simp
    refine callW_of (Part_vc (h := b) (n := 4)) (by simp [hpV]) ?_
    simp
    refine callW_of (nums_vc (b := b.far) (hp 4)) (by simp) ?_
    by_cases hx : a.far = b.far
    · simp [hx, wrap_i]
      exact ⟨4, by simp [hx, i1 (by omega), i2 (by omega), i3 (by omega)], by simp, by simp [cnt]⟩
    · have : a ≠ b := fun e => hx (by rw [e])
      simp [hx, this]
  · simp
    refine callW_of (nums_vc (b := b.roots) ha.roots) (by simp) ?_
    by_cases hx : a.roots = b.roots
    · have : a = b := by
        have h1 := i1 (by omega)
        have h2 := i2 (by omega)
        have h3 := i3 (by omega)
        have h4 := i4 (by omega)
        obtain ⟨_, _, _, _, _, _, _, _, _, _⟩ := a
        obtain ⟨_, _, _, _, _, _, _, _, _, _⟩ := b
        simp only at g1 g2 g3 g4 g5 h1 h2 h3 h4 hx
        subst g1 g2 g3 g4 g5 h1 h2 h3 h4 hx
        rfl
      subst this
      simp
    · have : a ≠ b := fun e => hx (by rw [e])
      simp [hx, this]
/-- which of n things a raw number speaks of -/
def pick (c n : Int) : Int := (if c < 0 then -(c + 1) else c) % n
theorem pick_lt {c n : Int} (hn : 0 < n) : 0 ≤ pick c n ∧ pick c n < n := ⟨Int.emod_nonneg _ (by omega), Int.emod_lt_of_pos _ hn⟩
theorem pick11_vc {c n : Int} (hc : Fit c) (hn : 0 < n) : VC Try.prog 29 false [vi c, vi n] (vi (pick c n)) := by
  refine vc_of_wp Try.func29 follows (by kernel_rfl) c29 rfl ?_
  obtain ⟨h1, h2⟩ := hc
  by_cases h : c < 0
  · simp [p29, h]
    simp (disch := omega) only [wrap_i]
    refine ⟨by omega, ?_⟩
    unfold pick
    rw [if_pos h, Int.tmod_eq_emod_of_nonneg (by omega)]
  · simp [p29, h]
    refine ⟨by omega, ?_⟩
    unfold pick
    rw [if_neg h, Int.tmod_eq_emod_of_nonneg (by omega)]
theorem pick13_vc {c n : Int} (hc : Fit c) (hn : 0 < n) : VC Try.prog 25 false [vi c, vi n] (vi (pick c n)) := by
  refine vc_of_wp Try.func25 follows (by kernel_rfl) c25 rfl ?_
  obtain ⟨h1, h2⟩ := hc
  by_cases h : c < 0
  · simp [p25, h]
    simp (disch := omega) only [wrap_i]
    refine ⟨by omega, ?_⟩
    unfold pick
    rw [if_pos h, Int.tmod_eq_emod_of_nonneg (by omega)]
  · simp [p25, h]
    refine ⟨by omega, ?_⟩
    unfold pick
    rw [if_neg h, Int.tmod_eq_emod_of_nonneg (by omega)]
theorem pick10_vc {c n : Int} (hc : Fit c) (hn : 0 < n) : VC Try.prog 88 false [vi c, vi n] (vi (pick c n)) := by
  refine vc_of_wp Try.func88 follows (by kernel_rfl) c88 rfl ?_
  obtain ⟨h1, h2⟩ := hc
  by_cases h : c < 0
  · simp [p88, h]
    simp (disch := omega) only [wrap_i]
    refine ⟨by omega, ?_⟩
    unfold pick
    rw [if_pos h, Int.tmod_eq_emod_of_nonneg (by omega)]
  · simp [p88, h]
    refine ⟨by omega, ?_⟩
    unfold pick
    rw [if_neg h, Int.tmod_eq_emod_of_nonneg (by omega)]
theorem pick08_vc {c n : Int} (hc : Fit c) (hn : 0 < n) : VC Try.prog 100 false [vi c, vi n] (vi (pick c n)) := by
  refine vc_of_wp Try.func100 follows (by kernel_rfl) c100 rfl ?_
  obtain ⟨h1, h2⟩ := hc
  by_cases h : c < 0
  · simp [p100, h]
    simp (disch := omega) only [wrap_i]
    refine ⟨by omega, ?_⟩
    unfold pick
    rw [if_pos h, Int.tmod_eq_emod_of_nonneg (by omega)]
  · simp [p100, h]
    refine ⟨by omega, ?_⟩
    unfold pick
    rw [if_neg h, Int.tmod_eq_emod_of_nonneg (by omega)]
theorem pick07_vc {c n : Int} (hc : Fit c) (hn : 0 < n) : VC Try.prog 82 false [vi c, vi n] (vi (pick c n)) := by
  refine vc_of_wp Try.func82 follows (by kernel_rfl) c82 rfl ?_
  obtain ⟨h1, h2⟩ := hc
  by_cases h : c < 0
  · simp [p82, h]
    simp (disch := omega) only [wrap_i]
    refine ⟨by omega, ?_⟩
    unfold pick
    rw [if_pos h, Int.tmod_eq_emod_of_nonneg (by omega)]
  · simp [p82, h]
    refine ⟨by omega, ?_⟩
    unfold pick
    rw [if_neg h, Int.tmod_eq_emod_of_nonneg (by omega)]
theorem pick20_vc {c n : Int} (hc : Fit c) (hn : 0 < n) : VC Try.prog 79 false [vi c, vi n] (vi (pick c n)) := by
  refine vc_of_wp Try.func79 follows (by kernel_rfl) c79 rfl ?_
  obtain ⟨h1, h2⟩ := hc
  by_cases h : c < 0
  · simp [p79, h]
    simp (disch := omega) only [wrap_i]
    refine ⟨by omega, ?_⟩
    unfold pick
    rw [if_pos h, Int.tmod_eq_emod_of_nonneg (by omega)]
  · simp [p79, h]
    refine ⟨by omega, ?_⟩
    unfold pick
    rw [if_neg h, Int.tmod_eq_emod_of_nonneg (by omega)]
end Vm
