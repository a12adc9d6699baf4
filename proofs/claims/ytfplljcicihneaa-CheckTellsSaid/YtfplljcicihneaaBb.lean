/-
  Layouts and places (layer 7, and the document's): what they compute.
-/
import Derived.Test.YtfplljcicihneaaBa
import Derived.Test.YtfplljcicihneaaHb
namespace Vm
open Go Go.Proofs
set_option linter.unusedSimpArgs false
set_option linter.unusedVariables false
set_option maxRecDepth 100000
structure Ly where
  base : Int
  cap : Int
  to : Int
  low : Int
  high : Int
  old : Int
  far : Int
  deriving DecidableEq, Inhabited
def lyV (l : Ly) : V := .agg [vu l.base, vi l.cap, vi l.to, vi l.low, vi l.high, vi l.old, vi l.far]
@[simp] theorem szV_lyV (l : Ly) : szV (lyV l) 7 = some (lyV l) := rfl
@[simp] theorem lyV_cells (l : Ly) : (lyV l).cells = [vu l.base, vi l.cap, vi l.to, vi l.low, vi l.high, vi l.old, vi l.far] := rfl
@[simp] theorem fldV_lyV0 (l : Ly) : fldV (lyV l) 0 = some (vu l.base) := rfl
@[simp] theorem fldV_lyV1 (l : Ly) : fldV (lyV l) 1 = some (vi l.cap) := rfl
@[simp] theorem fldV_lyV2 (l : Ly) : fldV (lyV l) 2 = some (vi l.to) := rfl
@[simp] theorem fldV_lyV3 (l : Ly) : fldV (lyV l) 3 = some (vi l.low) := rfl
@[simp] theorem fldV_lyV4 (l : Ly) : fldV (lyV l) 4 = some (vi l.high) := rfl
@[simp] theorem fldV_lyV5 (l : Ly) : fldV (lyV l) 5 = some (vi l.old) := rfl
@[simp] theorem fldV_lyV6 (l : Ly) : fldV (lyV l) 6 = some (vi l.far) := rfl
theorem lyV_eq (l : Ly) : V.agg [vu l.base, vi l.cap, vi l.to, vi l.low, vi l.high, vi l.old, vi l.far] = lyV l := rfl
def Ly.fits (l : Ly) : Prop := U64 l.base ∧ Fit l.cap ∧ Fit l.to ∧ Fit l.low ∧ Fit l.high ∧ Fit l.old ∧ Fit l.far
def withinP (a b words : Int) : Bool := decide (0 ≤ a) && decide (0 ≤ b) && decide (a ≤ words) && decide (b ≤ words - a)
def rightL (l : Ly) : Bool := decide (0 ≤ l.cap) && decide (l.cap ≤ 4096) && decide (1 ≤ l.base) && decide (l.base ≤ 9223372036854775808 - 2 * l.cap) && (decide (l.to = 0) || decide (l.to = 1)) && withinP l.low l.high l.cap && withinP l.old l.far l.cap
theorem rightL_iff {l : Ly} : rightL l = true ↔ 0 ≤ l.cap ∧ l.cap ≤ 4096 ∧ 1 ≤ l.base ∧ l.base ≤ 9223372036854775808 - 2 * l.cap ∧ (l.to = 0 ∨ l.to = 1) ∧ (0 ≤ l.low ∧ 0 ≤ l.high ∧ l.low ≤ l.cap ∧ l.high ≤ l.cap - l.low) ∧ (0 ≤ l.old ∧ 0 ≤ l.far ∧ l.old ≤ l.cap ∧ l.far ≤ l.cap - l.old) := by
  simp [rightL, withinP, and_assoc]
theorem rightL_no {l : Ly} : rightL l = false ↔ ¬ (0 ≤ l.cap ∧ l.cap ≤ 4096 ∧ 1 ≤ l.base ∧ l.base ≤ 9223372036854775808 - 2 * l.cap ∧ (l.to = 0 ∨ l.to = 1) ∧ (0 ≤ l.low ∧ 0 ≤ l.high ∧ l.low ≤ l.cap ∧ l.high ≤ l.cap - l.low) ∧ (0 ≤ l.old ∧ 0 ≤ l.far ∧ l.old ≤ l.cap ∧ l.far ≤ l.cap - l.old)) := by
  rw [← rightL_iff]; simp
theorem within_vc {a b w : Int} (ha : Fit a) (hb : Fit b) (hw : Fit w) : VC Try.prog 89 false [vi a, vi b, vi w] (.bool (withinP a b w)) := by
  refine vc_of_wp Try.func89 follows (by kernel_rfl) c89 rfl ?_
  obtain ⟨a1, a2⟩ := ha
  obtain ⟨w1, w2⟩ := hw
  by_cases h1 : 0 ≤ a
  · by_cases h2 : a ≤ w
    · have e := wrap_i (w - a) (by omega) (by omega)
      by_cases h3 : 0 ≤ b <;> simp [p89, withinP, h1, h2, h3, e]
    · by_cases h3 : 0 ≤ b <;> simp [p89, withinP, h1, h2, h3]
  · simp [p89, withinP, h1]
theorem rightL_vc {l : Ly} (hl : l.fits) : VC Try.prog 55 false [lyV l] (.bool (rightL l)) := by
  refine vc_of_wp Try.func55 follows (by kernel_rfl) c55 rfl ?_
  obtain ⟨⟨hb1, hb2⟩, hc, ht, h1, h2, h3, h4⟩ := hl
  obtain ⟨c1, c2⟩ := hc
  simp [p55]
  by_cases g1 : l.cap < 0
  · have : rightL l = false := rightL_no.2 (by omega)
    simp [g1, this]
  by_cases g2 : 4096 < l.cap
  · have : rightL l = false := rightL_no.2 (by omega)
    simp [g1, g2, this]
  by_cases g3 : l.base < 1
  · have : rightL l = false := rightL_no.2 (by omega)
    simp [g1, g2, g3, this]
  have e1 := wrap_u l.cap (by omega) (by omega)
  have e2 := wrap_u (2 * l.cap) (by omega) (by omega)
  have e3 := wrap_u (9223372036854775808 - 2 * l.cap) (by omega) (by omega)
  by_cases g4 : 9223372036854775808 - 2 * l.cap < l.base
  · have : rightL l = false := rightL_no.2 (by omega)
    simp [g1, g2, g3, e1, e2, e3, g4, this]
  by_cases g5 : l.to = 0 ∨ l.to = 1
  · have k1 := within_vc h1 h2 ⟨c1, c2⟩
    have k2 := within_vc h3 h4 ⟨c1, c2⟩
    have hr : rightL l = (withinP l.low l.high l.cap && withinP l.old l.far l.cap) := by
      rcases g5 with h | h <;> simp [rightL, show 0 ≤ l.cap by omega, show l.cap ≤ 4096 by omega, show 1 ≤ l.base by omega, show l.base ≤ 9223372036854775808 - 2 * l.cap by omega, h]
    rw [hr]
    rcases g5 with g5 | g5
    all_goals
      cases hw : withinP l.low l.high l.cap
      · rw [hw] at k1
        simp [g1, g2, g3, e1, e2, e3, g4, g5]
        refine callW_of k1 (by simp) ?_
        simp
      · rw [hw] at k1
        simp [g1, g2, g3, e1, e2, e3, g4, g5]
        refine callW_of k1 (by simp) ?_
        simp
        refine callW_of k2 (by simp) ?_
        simp
  · have : rightL l = false := rightL_no.2 (by omega)
    have g6 : ¬ l.to = 0 := fun h => g5 (.inl h)
    have g7 : ¬ l.to = 1 := fun h => g5 (.inr h)
    simp [g1, g2, g3, e1, e2, e3, g4, g6, g7, this]
theorem refRightL_vc {l : Ly} (hl : l.fits) : VC Try.prog 63 false [lyV l] (.bool (rightL l)) := by
  refine vc_of_wp Try.func63 follows (by kernel_rfl) c63 rfl ?_
  obtain ⟨⟨hb1, hb2⟩, hc, ht, h1, h2, h3, h4⟩ := hl
  obtain ⟨c1, c2⟩ := hc
  simp [p63]
  by_cases g3 : l.base < 1
  · have : rightL l = false := rightL_no.2 (by omega)
    simp [g3, this]
  by_cases g1 : l.cap < 0
  · have : rightL l = false := rightL_no.2 (by omega)
    simp [g1, g3, this]
  by_cases g2 : 4096 < l.cap
  · have : rightL l = false := rightL_no.2 (by omega)
    simp [g1, g2, g3, this]
  have e1 := wrap_u l.cap (by omega) (by omega)
  have e2 := wrap_u (2 * l.cap) (by omega) (by omega)
  have e3 := wrap_u (9223372036854775808 - 2 * l.cap) (by omega) (by omega)
  by_cases g4 : 9223372036854775808 - 2 * l.cap < l.base
  · have : rightL l = false := rightL_no.2 (by omega)
    simp [g1, g2, g3, e1, e2, e3, g4, this]
  by_cases g5 : l.to < 0
  · have : rightL l = false := rightL_no.2 (by omega)
    simp [g1, g2, g3, e1, e2, e3, g4, g5, this]
  by_cases g6 : 1 < l.to
  · have : rightL l = false := rightL_no.2 (by omega)
    simp [g1, g2, g3, e1, e2, e3, g4, g5, g6, this]
  by_cases q1 : l.low < 0
  · have : rightL l = false := rightL_no.2 (by omega)
    simp [g1, g2, g3, e1, e2, e3, g4, g5, g6, q1, this]
  by_cases q2 : l.high < 0
  · have : rightL l = false := rightL_no.2 (by omega)
    simp [g1, g2, g3, e1, e2, e3, g4, g5, g6, q1, q2, this]
  by_cases q3 : l.old < 0
  · have : rightL l = false := rightL_no.2 (by omega)
    simp [g1, g2, g3, e1, e2, e3, g4, g5, g6, q1, q2, q3, this]
  by_cases q4 : l.far < 0
  · have : rightL l = false := rightL_no.2 (by omega)
    simp [g1, g2, g3, e1, e2, e3, g4, g5, g6, q1, q2, q3, q4, this]
  obtain ⟨l1, l2⟩ := h1
  obtain ⟨o1, o2⟩ := h3
  have w1 := wrap_i (l.cap - l.low) (by omega) (by omega)
  have w2 := wrap_i (l.cap - l.old) (by omega) (by omega)
  by_cases r1 : l.low ≤ l.cap
  · by_cases r2 : l.high ≤ l.cap - l.low
    · by_cases r3 : l.old ≤ l.cap
      · by_cases r4 : l.far ≤ l.cap - l.old
        · have : rightL l = true := rightL_iff.2 (by omega)
          simp [g1, g2, g3, e1, e2, e3, g4, g5, g6, q1, q2, q3, q4, w1, w2, r1, r2, r3, r4, this]
        · have : rightL l = false := rightL_no.2 (by omega)
          simp [g1, g2, g3, e1, e2, e3, g4, g5, g6, q1, q2, q3, q4, w1, w2, r1, r2, r3, r4, this]
      · have : rightL l = false := rightL_no.2 (by omega)
        simp [g1, g2, g3, e1, e2, e3, g4, g5, g6, q1, q2, q3, q4, w1, w2, r1, r2, r3, this]
    · have : rightL l = false := rightL_no.2 (by omega)
      simp [g1, g2, g3, e1, e2, e3, g4, g5, g6, q1, q2, q3, q4, w1, w2, r1, r2, this]
  · have : rightL l = false := rightL_no.2 (by omega)
    simp [g1, g2, g3, e1, e2, e3, g4, g5, g6, q1, q2, q3, q4, w1, w2, r1, this]
/-- how many words are free -/
def roomL (l : Ly) : Int := if rightL l then l.cap - l.low - l.high else 0
theorem roomL_vc {l : Ly} (hl : l.fits) : VC Try.prog 61 false [lyV l] (vi (roomL l)) := by
  refine vc_of_wp Try.func61 follows (by kernel_rfl) c61 rfl ?_
  simp [p61]
  refine callW_of (rightL_vc hl) (by simp) ?_
  cases h : rightL l
  · simp [roomL, h]
  · have h' := rightL_iff.1 h
    have e1 := wrap_i (l.cap - l.low) (by omega) (by omega)
    have e2 := wrap_i (l.cap - l.low - l.high) (by omega) (by omega)
    simp [roomL, h, e1, e2]
theorem refRoomL_vc {l : Ly} (hl : l.fits) : VC Try.prog 93 false [lyV l] (vi (roomL l)) := by
  refine vc_of_wp Try.func93 follows (by kernel_rfl) c93 rfl ?_
  simp [p93]
  refine callW_of (refRightL_vc hl) (by simp) ?_
  cases h : rightL l
  · simp [roomL, h]
  · have h' := rightL_iff.1 h
    have e1 := wrap_i (l.cap - l.low) (by omega) (by omega)
    have e2 := wrap_i (l.cap - l.low - l.high) (by omega) (by omega)
    simp [roomL, h, e1, e2]
/-- a part's first address, and how many words it has -/
def fstL (l : Ly) (part : Int) : Int :=
  if part = 1 then l.base + l.to * l.cap else if part = 2 then l.base + l.to * l.cap + (l.cap - l.high) else if part = 3 then l.base + (1 - l.to) * l.cap else l.base + (1 - l.to) * l.cap + (l.cap - l.far)
def sizL (l : Ly) (part : Int) : Int := if part = 1 then l.low else if part = 2 then l.high else if part = 3 then l.old else l.far
theorem toCap {l : Ly} (hr : rightL l = true) : (l.to * l.cap = 0 ∧ (1 - l.to) * l.cap = l.cap) ∨ (l.to * l.cap = l.cap ∧ (1 - l.to) * l.cap = 0) := by
  obtain ⟨_, _, _, _, ht, _⟩ := rightL_iff.1 hr
  rcases ht with h | h
  · rw [h]; exact .inl ⟨by simp, by simp⟩
  · rw [h]; exact .inr ⟨by simp, by simp⟩
theorem fstL_range {l : Ly} (hr : rightL l = true) (k : Int) : 1 ≤ fstL l k ∧ fstL l k + sizL l k ≤ 9223372036854775808 ∧ 0 ≤ sizL l k ∧ sizL l k ≤ 4096 := by
  have h := rightL_iff.1 hr
  have ht := toCap hr
  unfold fstL sizL
  by_cases k1 : k = 1
  · simp only [if_pos k1]; omega
  by_cases k2 : k = 2
  · simp only [if_neg k1, if_pos k2]; omega
  by_cases k3 : k = 3
  · simp only [if_neg k1, if_neg k2, if_pos k3]; omega
  · simp only [if_neg k1, if_neg k2, if_neg k3]; omega
theorem first_vc {l : Ly} (hr : rightL l = true) {k : Int} (hk : 1 ≤ k ∧ k ≤ 4) : VC Try.prog 99 false [lyV l, vi k] (vu (fstL l k)) := by
  refine vc_of_wp Try.func99 follows (by kernel_rfl) c99 rfl ?_
  have h := rightL_iff.1 hr
  have ht := toCap hr
  have w1 := wrap_i (l.to * l.cap) (by omega) (by omega)
  have w2 := wrap_i (1 - l.to) (by omega) (by omega)
  have w3 := wrap_i ((1 - l.to) * l.cap) (by omega) (by omega)
  have w4 := wrap_i (l.cap - l.high) (by omega) (by omega)
  have w5 := wrap_i (l.cap - l.far) (by omega) (by omega)
  have u1 := wrap_u (l.to * l.cap) (by omega) (by omega)
  have u3 := wrap_u ((1 - l.to) * l.cap) (by omega) (by omega)
  have u4 := wrap_u (l.cap - l.high) (by omega) (by omega)
  have u5 := wrap_u (l.cap - l.far) (by omega) (by omega)
  have v1 := wrap_u (l.base + l.to * l.cap) (by omega) (by omega)
  have v2 := wrap_u (l.base + (l.cap - l.high)) (by omega) (by omega)
  have v3 := wrap_u (l.base + (l.cap - l.high) + l.to * l.cap) (by omega) (by omega)
  have v4 := wrap_u (l.base + (1 - l.to) * l.cap) (by omega) (by omega)
  have v5 := wrap_u (l.base + (l.cap - l.far)) (by omega) (by omega)
  have v6 := wrap_u (l.base + (l.cap - l.far) + (1 - l.to) * l.cap) (by omega) (by omega)
  have hk' : k = 1 ∨ k = 2 ∨ k = 3 ∨ k = 4 := by omega
  rcases hk' with rfl | rfl | rfl | rfl
  · simp [p99, xB_other, fstL, w1, u1, v1]
  · simp [p99, xB_other, fstL, w1, u1, w4, u4, v2, v3]
    omega
  · simp [p99, xB_other, fstL, w2, w3, u3, v4]
  · simp [p99, xB_other, fstL, w2, w3, u3, w5, u5, v5, v6]
    omega
def spansV (l : Ly) : V := .agg [vu (fstL l 1), vi l.low, vu (fstL l 2), vi l.high, vu (fstL l 3), vi l.old, vu (fstL l 4), vi l.far]
theorem spans_vc {l : Ly} (hr : rightL l = true) : VC Try.prog 78 false [lyV l] (spansV l) := by
  refine vc_of_wp Try.func78 follows (by kernel_rfl) c78 rfl ?_
  simp [p78]
  refine callW_of (first_vc hr (k := 1) (by omega)) (by simp [lyV]) ?_
  simp
  refine callW_of (first_vc hr (k := 2) (by omega)) (by simp [lyV]) ?_
  simp
  refine callW_of (first_vc hr (k := 3) (by omega)) (by simp [lyV]) ?_
  simp
  refine callW_of (first_vc hr (k := 4) (by omega)) (by simp [lyV]) ?_
  simp [spansV]
@[simp] theorem sizL1 (l : Ly) : sizL l 1 = l.low := rfl
@[simp] theorem sizL2 (l : Ly) : sizL l 2 = l.high := rfl
@[simp] theorem sizL3 (l : Ly) : sizL l 3 = l.old := rfl
@[simp] theorem sizL4 (l : Ly) : sizL l 4 = l.far := rfl
/-- the address of a place -/
def addrL (l : Ly) (part at_ : Int) : Int × Int :=
  if rightL l = false then (0, 1) else if part < 1 ∨ 4 < part then (0, 6) else if at_ < 0 ∨ sizL l part ≤ at_ then (0, 6) else (fstL l part + at_, 0)
theorem addrL_vc {l : Ly} (hl : l.fits) {part at_ : Int} : VC Try.prog 39 false [lyV l, .agg [vi part, vi at_]] (.tup [vu (addrL l part at_).1, vi (addrL l part at_).2]) := by
  refine vc_of_wp Try.func39 follows (by kernel_rfl) c39 rfl ?_
  simp [p39]
  refine callW_of (rightL_vc hl) (by simp) ?_
  cases hr : rightL l
  · simp [addrL, hr]
  · simp
    by_cases h1 : part < 1
    · simp [addrL, hr, h1]
    by_cases h2 : 4 < part
    · simp [addrL, hr, h1, h2]
    have hk : part = 1 ∨ part = 2 ∨ part = 3 ∨ part = 4 := by omega
    simp [h1, h2]
    refine callW_of (spans_vc hr) (by simp [spansV]) ?_
    rcases hk with rfl | rfl | rfl | rfl
    · have hw := fstL_range hr 1
      simp only [sizL1] at hw
      simp [spansV, aiV, wrap_i]
      by_cases h3 : at_ < 0
      · simp [addrL, hr, h3]
      by_cases h4 : l.low ≤ at_
      · simp [addrL, hr, h3, h4]
      · have u1 := wrap_u at_ (by omega) (by omega)
        have u2 := wrap_u (fstL l 1 + at_) (by omega) (by omega)
        simp [addrL, hr, h3, h4, u1, u2]
    · have hw := fstL_range hr 2
      simp only [sizL2] at hw
      simp [spansV, aiV, wrap_i]
      by_cases h3 : at_ < 0
      · simp [addrL, hr, h3]
      by_cases h4 : l.high ≤ at_
      · simp [addrL, hr, h3, h4]
      · have u1 := wrap_u at_ (by omega) (by omega)
        have u2 := wrap_u (fstL l 2 + at_) (by omega) (by omega)
        simp [addrL, hr, h3, h4, u1, u2]
    · have hw := fstL_range hr 3
      simp only [sizL3] at hw
      simp [spansV, aiV, wrap_i]
      by_cases h3 : at_ < 0
      · simp [addrL, hr, h3]
      by_cases h4 : l.old ≤ at_
      · simp [addrL, hr, h3, h4]
      · have u1 := wrap_u at_ (by omega) (by omega)
        have u2 := wrap_u (fstL l 3 + at_) (by omega) (by omega)
        simp [addrL, hr, h3, h4, u1, u2]
    · have hw := fstL_range hr 4
      simp only [sizL4] at hw
      simp [spansV, aiV, wrap_i]
      by_cases h3 : at_ < 0
      · simp [addrL, hr, h3]
      by_cases h4 : l.far ≤ at_
      · simp [addrL, hr, h3, h4]
      · have u1 := wrap_u at_ (by omega) (by omega)
        have u2 := wrap_u (fstL l 4 + at_) (by omega) (by omega)
        simp [addrL, hr, h3, h4, u1, u2]
theorem refAddresses_vc {l : Ly} (hr : rightL l = true) {k : Int} (hk : 1 ≤ k ∧ k ≤ 4) : VC Try.prog 77 false [lyV l, vi k] (.tup [vu (fstL l k), vi (sizL l k)]) := by
  refine vc_of_wp Try.func77 follows (by kernel_rfl) c77 rfl ?_
  have h := rightL_iff.1 hr
  have ht := toCap hr
  have w1 := wrap_i (l.to * l.cap) (by omega) (by omega)
  have w2 := wrap_i (1 - l.to) (by omega) (by omega)
  have w3 := wrap_i ((1 - l.to) * l.cap) (by omega) (by omega)
  have w4 := wrap_i (l.cap - l.high) (by omega) (by omega)
  have w5 := wrap_i (l.cap - l.far) (by omega) (by omega)
  have u1 := wrap_u (l.to * l.cap) (by omega) (by omega)
  have u3 := wrap_u ((1 - l.to) * l.cap) (by omega) (by omega)
  have u4 := wrap_u (l.cap - l.high) (by omega) (by omega)
  have u5 := wrap_u (l.cap - l.far) (by omega) (by omega)
  have v1 := wrap_u (l.base + l.to * l.cap) (by omega) (by omega)
  have v2 := wrap_u (l.base + l.to * l.cap + (l.cap - l.high)) (by omega) (by omega)
  have v4 := wrap_u (l.base + (1 - l.to) * l.cap) (by omega) (by omega)
  have v5 := wrap_u (l.base + (1 - l.to) * l.cap + (l.cap - l.far)) (by omega) (by omega)
  have hk' : k = 1 ∨ k = 2 ∨ k = 3 ∨ k = 4 := by omega
  rcases hk' with rfl | rfl | rfl | rfl
  all_goals simp [p77, xB_other, fstL, w1, u1, w2, w3, u3, w4, u4, w5, u5, v1, v2, v4, v5]
theorem refAddresses_no {l : Ly} (hr : rightL l = true) {k : Int} (hk : k < 1 ∨ 4 < k) : VC Try.prog 77 false [lyV l, vi k] (.tup [vu 0, vi 0]) := by
  refine vc_of_wp Try.func77 follows (by kernel_rfl) c77 rfl ?_
  simp [p77, xB_other, show k ≠ 1 by omega, show k ≠ 2 by omega, show k ≠ 3 by omega, show k ≠ 4 by omega]
theorem refAddrL_vc {l : Ly} (hl : l.fits) {part at_ : Int} : VC Try.prog 37 false [lyV l, .agg [vi part, vi at_]] (.tup [vu (addrL l part at_).1, vi (addrL l part at_).2]) := by
  refine vc_of_wp Try.func37 follows (by kernel_rfl) c37 rfl ?_
  simp [p37]
  refine callW_of (refRightL_vc hl) (by simp) ?_
  cases hr : rightL l
  · simp [addrL, hr]
  · simp
    by_cases hp : part < 1 ∨ 4 < part
    · refine callW_of (refAddresses_no hr hp) (by simp) ?_
      by_cases h3 : at_ < 0
      · simp [addrL, hr, hp, h3]
      · simp [addrL, hr, hp, h3, show 0 ≤ at_ by omega]
    have hk : part = 1 ∨ part = 2 ∨ part = 3 ∨ part = 4 := by omega
    rcases hk with rfl | rfl | rfl | rfl
    · have hw := fstL_range hr 1
      simp only [sizL1] at hw
      refine callW_of (refAddresses_vc hr (k := 1) (by omega)) (by simp) ?_
      by_cases h3 : at_ < 0
      · simp [addrL, hr, h3]
      by_cases h4 : l.low ≤ at_
      · simp [addrL, hr, h3, h4]
      · have u1 := wrap_u at_ (by omega) (by omega)
        have u2 := wrap_u (fstL l 1 + at_) (by omega) (by omega)
        simp [addrL, hr, h3, h4, u1, u2]
    · have hw := fstL_range hr 2
      simp only [sizL2] at hw
      refine callW_of (refAddresses_vc hr (k := 2) (by omega)) (by simp) ?_
      by_cases h3 : at_ < 0
      · simp [addrL, hr, h3]
      by_cases h4 : l.high ≤ at_
      · simp [addrL, hr, h3, h4]
      · have u1 := wrap_u at_ (by omega) (by omega)
        have u2 := wrap_u (fstL l 2 + at_) (by omega) (by omega)
        simp [addrL, hr, h3, h4, u1, u2]
    · have hw := fstL_range hr 3
      simp only [sizL3] at hw
      refine callW_of (refAddresses_vc hr (k := 3) (by omega)) (by simp) ?_
      by_cases h3 : at_ < 0
      · simp [addrL, hr, h3]
      by_cases h4 : l.old ≤ at_
      · simp [addrL, hr, h3, h4]
      · have u1 := wrap_u at_ (by omega) (by omega)
        have u2 := wrap_u (fstL l 3 + at_) (by omega) (by omega)
        simp [addrL, hr, h3, h4, u1, u2]
    · have hw := fstL_range hr 4
      simp only [sizL4] at hw
      refine callW_of (refAddresses_vc hr (k := 4) (by omega)) (by simp) ?_
      by_cases h3 : at_ < 0
      · simp [addrL, hr, h3]
      by_cases h4 : l.far ≤ at_
      · simp [addrL, hr, h3, h4]
      · have u1 := wrap_u at_ (by omega) (by omega)
        have u2 := wrap_u (fstL l 4 + at_) (by omega) (by omega)
        simp [addrL, hr, h3, h4, u1, u2]
/-- the place of an address -/
def inL (l : Ly) (a k : Int) : Bool := decide (fstL l k ≤ a) && decide (a < fstL l k + sizL l k)
theorem inL_iff {l : Ly} {a k : Int} : inL l a k = true ↔ fstL l k ≤ a ∧ a < fstL l k + sizL l k := by simp [inL]
theorem inL_no {l : Ly} {a k : Int} : inL l a k = false ↔ ¬ (fstL l k ≤ a ∧ a < fstL l k + sizL l k) := by rw [← inL_iff]; simp
def findL (l : Ly) (a : Int) : Int × Int × Int :=
  if rightL l = false then (0, 0, 1) else if inL l a 1 then (1, a - fstL l 1, 0) else if inL l a 2 then (2, a - fstL l 2, 0) else if inL l a 3 then (3, a - fstL l 3, 0) else if inL l a 4 then (4, a - fstL l 4, 0) else (0, 0, 6)
theorem findL_vc {l : Ly} (hl : l.fits) {a : Int} (ha : U64 a) : VC Try.prog 58 false [lyV l, vu a] (.tup [.agg [vi (findL l a).1, vi (findL l a).2.1], vi (findL l a).2.2]) := by
  refine vc_of_wp Try.func58 follows (by kernel_rfl) c58 rfl ?_
  simp [p58]
  refine callW_of (rightL_vc hl) (by simp) ?_
  cases hr : rightL l
  · simp [findL, hr]
  · obtain ⟨a1, a2⟩ := ha
    simp
    refine callW_of (spans_vc hr) (by simp [lyV]) ?_
    simp
    have hw : ∀ k, 1 ≤ fstL l k ∧ fstL l k + sizL l k ≤ 9223372036854775808 ∧ 0 ≤ sizL l k ∧ sizL l k ≤ 4096 := fun k => fstL_range hr k
    have w1 := hw 1
    have w2 := hw 2
    have w3 := hw 3
    have w4 := hw 4
    simp only [sizL1, sizL2, sizL3, sizL4] at w1 w2 w3 w4
    refine wpS_for0 6 4 (fun i => (0 < i → inL l a 1 = false) ∧ (1 < i → inL l a 2 = false) ∧ (2 < i → inL l a 3 = false) ∧ (3 < i → inL l a 4 = false)) (by simp) (by simp) (by simp) ?_
    rintro i hi ⟨i1, i2, i3, i4⟩
    have hi' : i = 0 ∨ i = 1 ∨ i = 2 ∨ i = 3 ∨ i = 4 := by omega
    rcases hi' with rfl | rfl | rfl | rfl | rfl
    · have u0 := wrap_u l.low (by omega) (by omega)
      by_cases h1 : fstL l 1 ≤ a
      · have u1 := wrap_u (a - fstL l 1) (by omega) (by omega)
        by_cases h2 : a - fstL l 1 < l.low
        · have u2 := wrap_i (a - fstL l 1) (by omega) (by omega)
          have hin : inL l a 1 = true := inL_iff.2 ⟨h1, by rw [sizL1]; omega⟩
          simp [spansV, aiV, wrap_i, h1, u0, u1, h2, u2, findL, hr, hin]
        · have hin : inL l a 1 = false := inL_no.2 (by rw [sizL1]; omega)
          simp [spansV, aiV, wrap_i, h1, u0, u1, h2, hin]
      · have hin : inL l a 1 = false := by simp [inL, h1]
        simp [spansV, aiV, wrap_i, h1, hin]
    · have u0 := wrap_u l.high (by omega) (by omega)
      by_cases h1 : fstL l 2 ≤ a
      · have u1 := wrap_u (a - fstL l 2) (by omega) (by omega)
        by_cases h2 : a - fstL l 2 < l.high
        · have u2 := wrap_i (a - fstL l 2) (by omega) (by omega)
          have hin : inL l a 2 = true := inL_iff.2 ⟨h1, by rw [sizL2]; omega⟩
          simp [spansV, aiV, wrap_i, h1, u0, u1, h2, u2, findL, hr, hin, i1 (by omega)]
        · have hin : inL l a 2 = false := inL_no.2 (by rw [sizL2]; omega)
          simp [spansV, aiV, wrap_i, h1, u0, u1, h2, hin, i1 (by omega)]
      · have hin : inL l a 2 = false := by simp [inL, h1]
        simp [spansV, aiV, wrap_i, h1, hin, i1 (by omega)]
    · have u0 := wrap_u l.old (by omega) (by omega)
      by_cases h1 : fstL l 3 ≤ a
      · have u1 := wrap_u (a - fstL l 3) (by omega) (by omega)
        by_cases h2 : a - fstL l 3 < l.old
        · have u2 := wrap_i (a - fstL l 3) (by omega) (by omega)
          have hin : inL l a 3 = true := inL_iff.2 ⟨h1, by rw [sizL3]; omega⟩
          simp [spansV, aiV, wrap_i, h1, u0, u1, h2, u2, findL, hr, hin, i1 (by omega), i2 (by omega)]
        · have hin : inL l a 3 = false := inL_no.2 (by rw [sizL3]; omega)
          simp [spansV, aiV, wrap_i, h1, u0, u1, h2, hin, i1 (by omega), i2 (by omega)]
      · have hin : inL l a 3 = false := by simp [inL, h1]
        simp [spansV, aiV, wrap_i, h1, hin, i1 (by omega), i2 (by omega)]
    · have u0 := wrap_u l.far (by omega) (by omega)
      by_cases h1 : fstL l 4 ≤ a
      · have u1 := wrap_u (a - fstL l 4) (by omega) (by omega)
        by_cases h2 : a - fstL l 4 < l.far
        · have u2 := wrap_i (a - fstL l 4) (by omega) (by omega)
          have hin : inL l a 4 = true := inL_iff.2 ⟨h1, by rw [sizL4]; omega⟩
          simp [spansV, aiV, wrap_i, h1, u0, u1, h2, u2, findL, hr, hin, i1 (by omega), i2 (by omega), i3 (by omega)]
        · have hin : inL l a 4 = false := inL_no.2 (by rw [sizL4]; omega)
          simp [spansV, aiV, wrap_i, h1, u0, u1, h2, hin, i1 (by omega), i2 (by omega), i3 (by omega)]
      · have hin : inL l a 4 = false := by simp [inL, h1]
        simp [spansV, aiV, wrap_i, h1, hin, i1 (by omega), i2 (by omega), i3 (by omega)]
    · simp [findL, hr, i1 (by omega), i2 (by omega), i3 (by omega), i4 (by omega)]
theorem refFindL_vc {l : Ly} (hl : l.fits) {a : Int} (ha : U64 a) : VC Try.prog 65 false [lyV l, vu a] (.tup [.agg [vi (findL l a).1, vi (findL l a).2.1], vi (findL l a).2.2]) := by
  refine vc_of_wp Try.func65 follows (by kernel_rfl) c65 rfl ?_
  simp [p65]
  refine callW_of (refRightL_vc hl) (by simp) ?_
  cases hr : rightL l
  · simp [findL, hr]
  · obtain ⟨a1, a2⟩ := ha
    simp
    have hw : ∀ k, 1 ≤ fstL l k ∧ fstL l k + sizL l k ≤ 9223372036854775808 ∧ 0 ≤ sizL l k ∧ sizL l k ≤ 4096 := fun k => fstL_range hr k
    have w1 := hw 1
    have w2 := hw 2
    have w3 := hw 3
    have w4 := hw 4
    simp only [sizL1, sizL2, sizL3, sizL4] at w1 w2 w3 w4
    refine wpS_loopP (fun (i : Nat) => [(7, .v (vi ((i + 1 : Nat) : Int)))]) (fun i => i ≤ 4 ∧ (0 < i → inL l a 1 = false) ∧ (1 < i → inL l a 2 = false) ∧ (2 < i → inL l a 3 = false) ∧ (3 < i → inL l a 4 = false)) (cnt 7 5) 0 (by simp) (by simp) ?_
    rintro i ⟨hi, i1, i2, i3, i4⟩
    have hi' : i = 0 ∨ i = 1 ∨ i = 2 ∨ i = 3 ∨ i = 4 := by omega
    rcases hi' with rfl | rfl | rfl | rfl | rfl
    · have u0 := wrap_u l.low (by omega) (by omega)
      have u3 := wrap_u (fstL l 1 + l.low) (by omega) (by omega)
      simp
      refine callW_of (refAddresses_vc hr (k := 1) (by omega)) (by simp) ?_
      by_cases h1 : fstL l 1 ≤ a
      · by_cases h2 : a < fstL l 1 + l.low
        · have u1 := wrap_u (a - fstL l 1) (by omega) (by omega)
          have u2 := wrap_i (a - fstL l 1) (by omega) (by omega)
          have hin : inL l a 1 = true := inL_iff.2 ⟨h1, by rw [sizL1]; omega⟩
          simp [wrap_i, h1, u0, u1, h2, u2, u3, findL, hr, hin]
        · have hin : inL l a 1 = false := inL_no.2 (by rw [sizL1]; omega)
          simp [wrap_i, h1, u0, u3, h2]
          exact ⟨1, by simp [hin], by simp, by simp [cnt]⟩
      · have hin : inL l a 1 = false := by simp [inL, h1]
        simp [wrap_i, h1]
        exact ⟨1, by simp [hin], by simp, by simp [cnt]⟩
    · have u0 := wrap_u l.high (by omega) (by omega)
      have u3 := wrap_u (fstL l 2 + l.high) (by omega) (by omega)
      simp
      refine callW_of (refAddresses_vc hr (k := 2) (by omega)) (by simp) ?_
      by_cases h1 : fstL l 2 ≤ a
      · by_cases h2 : a < fstL l 2 + l.high
        · have u1 := wrap_u (a - fstL l 2) (by omega) (by omega)
          have u2 := wrap_i (a - fstL l 2) (by omega) (by omega)
          have hin : inL l a 2 = true := inL_iff.2 ⟨h1, by rw [sizL2]; omega⟩
          simp [wrap_i, h1, u0, u1, h2, u2, u3, findL, hr, hin, i1 (by omega)]
        · have hin : inL l a 2 = false := inL_no.2 (by rw [sizL2]; omega)
          simp [wrap_i, h1, u0, u3, h2]
          exact ⟨2, by simp [hin, i1 (by omega)], by simp, by simp [cnt]⟩
      · have hin : inL l a 2 = false := by simp [inL, h1]
        simp [wrap_i, h1]
        exact ⟨2, by simp [hin, i1 (by omega)], by simp, by simp [cnt]⟩
    · have u0 := wrap_u l.old (by omega) (by omega)
      have u3 := wrap_u (fstL l 3 + l.old) (by omega) (by omega)
      simp
      refine callW_of (refAddresses_vc hr (k := 3) (by omega)) (by simp) ?_
      by_cases h1 : fstL l 3 ≤ a
      · by_cases h2 : a < fstL l 3 + l.old
        · have u1 := wrap_u (a - fstL l 3) (by omega) (by omega)
          have u2 := wrap_i (a - fstL l 3) (by omega) (by omega)
          have hin : inL l a 3 = true := inL_iff.2 ⟨h1, by rw [sizL3]; omega⟩
          simp [wrap_i, h1, u0, u1, h2, u2, u3, findL, hr, hin, i1 (by omega), i2 (by omega)]
        · have hin : inL l a 3 = false := inL_no.2 (by rw [sizL3]; omega)
          simp [wrap_i, h1, u0, u3, h2]
          exact ⟨3, by simp [hin, i1 (by omega), i2 (by omega)], by simp, by simp [cnt]⟩
      · have hin : inL l a 3 = false := by simp [inL, h1]
        simp [wrap_i, h1]
        exact ⟨3, by simp [hin, i1 (by omega), i2 (by omega)], by simp, by simp [cnt]⟩
    · have u0 := wrap_u l.far (by omega) (by omega)
      have u3 := wrap_u (fstL l 4 + l.far) (by omega) (by omega)
      simp
      refine callW_of (refAddresses_vc hr (k := 4) (by omega)) (by simp) ?_
      by_cases h1 : fstL l 4 ≤ a
      · by_cases h2 : a < fstL l 4 + l.far
        · have u1 := wrap_u (a - fstL l 4) (by omega) (by omega)
          have u2 := wrap_i (a - fstL l 4) (by omega) (by omega)
          have hin : inL l a 4 = true := inL_iff.2 ⟨h1, by rw [sizL4]; omega⟩
          simp [wrap_i, h1, u0, u1, h2, u2, u3, findL, hr, hin, i1 (by omega), i2 (by omega), i3 (by omega)]
        · have hin : inL l a 4 = false := inL_no.2 (by rw [sizL4]; omega)
          simp [wrap_i, h1, u0, u3, h2]
          exact ⟨4, by simp [hin, i1 (by omega), i2 (by omega), i3 (by omega)], by simp, by simp [cnt]⟩
      · have hin : inL l a 4 = false := by simp [inL, h1]
        simp [wrap_i, h1]
        exact ⟨4, by simp [hin, i1 (by omega), i2 (by omega), i3 (by omega)], by simp, by simp [cnt]⟩
    · simp [findL, hr, i1 (by omega), i2 (by omega), i3 (by omega), i4 (by omega)]
end Vm
