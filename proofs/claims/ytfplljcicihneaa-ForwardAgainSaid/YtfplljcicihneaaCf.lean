/-
  Heaps of any words, and heaps of which one thing is turned.
-/
import Derived.Test.YtfplljcicihneaaCe
namespace Vm
open Go Go.Proofs
set_option linter.unusedSimpArgs false
set_option linter.unusedVariables false
set_option maxRecDepth 100000
set_option maxHeartbeats 1000000
/-- six numbers as law07's Layout takes them -/
def i6V (a b c d e f : Int) : V := .agg [vi a, vi b, vi c, vi d, vi e, vi f]
@[simp] theorem ai6_0 (k : IntKind) (a b c d e f : Int) : aiV (.agg [.int k a, .int k b, .int k c, .int k d, .int k e, .int k f]) (.int .i64 0) 6 1 false = some (.int k a) := rfl
@[simp] theorem ai6b_0 (a b c d e f : Bool) : aiV (.agg [.bool a, .bool b, .bool c, .bool d, .bool e, .bool f]) (.int .i64 0) 6 1 false = some (.bool a) := rfl
@[simp] theorem ai6_1 (k : IntKind) (a b c d e f : Int) : aiV (.agg [.int k a, .int k b, .int k c, .int k d, .int k e, .int k f]) (.int .i64 1) 6 1 false = some (.int k b) := rfl
@[simp] theorem ai6b_1 (a b c d e f : Bool) : aiV (.agg [.bool a, .bool b, .bool c, .bool d, .bool e, .bool f]) (.int .i64 1) 6 1 false = some (.bool b) := rfl
@[simp] theorem ai6_2 (k : IntKind) (a b c d e f : Int) : aiV (.agg [.int k a, .int k b, .int k c, .int k d, .int k e, .int k f]) (.int .i64 2) 6 1 false = some (.int k c) := rfl
@[simp] theorem ai6b_2 (a b c d e f : Bool) : aiV (.agg [.bool a, .bool b, .bool c, .bool d, .bool e, .bool f]) (.int .i64 2) 6 1 false = some (.bool c) := rfl
@[simp] theorem ai6_3 (k : IntKind) (a b c d e f : Int) : aiV (.agg [.int k a, .int k b, .int k c, .int k d, .int k e, .int k f]) (.int .i64 3) 6 1 false = some (.int k d) := rfl
@[simp] theorem ai6b_3 (a b c d e f : Bool) : aiV (.agg [.bool a, .bool b, .bool c, .bool d, .bool e, .bool f]) (.int .i64 3) 6 1 false = some (.bool d) := rfl
@[simp] theorem ai6_4 (k : IntKind) (a b c d e f : Int) : aiV (.agg [.int k a, .int k b, .int k c, .int k d, .int k e, .int k f]) (.int .i64 4) 6 1 false = some (.int k e) := rfl
@[simp] theorem ai6b_4 (a b c d e f : Bool) : aiV (.agg [.bool a, .bool b, .bool c, .bool d, .bool e, .bool f]) (.int .i64 4) 6 1 false = some (.bool e) := rfl
@[simp] theorem ai6_5 (k : IntKind) (a b c d e f : Int) : aiV (.agg [.int k a, .int k b, .int k c, .int k d, .int k e, .int k f]) (.int .i64 5) 6 1 false = some (.int k f) := rfl
@[simp] theorem ai6b_5 (a b c d e f : Bool) : aiV (.agg [.bool a, .bool b, .bool c, .bool d, .bool e, .bool f]) (.int .i64 5) 6 1 false = some (.bool f) := rfl
def lay7 (base a b c d e f : Int) : Ly :=
  let cap := pick a 41
  let low := pick c (cap + 1)
  let old := pick e (cap + 1)
  ⟨1 + base % (9223372036854775808 - 2 * cap), cap, pick b 2, low, pick d (cap - low + 1), old, pick f (cap - old + 1)⟩
theorem lay7_ok (base a b c d e f : Int) : rightL (lay7 base a b c d e f) = true ∧ (lay7 base a b c d e f).cap ≤ 40 := by
  have p1 := pick_lt (c := a) (n := 41) (by omega)
  have p2 := pick_lt (c := b) (n := 2) (by omega)
  have p3 := pick_lt (c := c) (n := pick a 41 + 1) (by omega)
  have p4 := pick_lt (c := d) (n := pick a 41 - pick c (pick a 41 + 1) + 1) (by omega)
  have p5 := pick_lt (c := e) (n := pick a 41 + 1) (by omega)
  have p6 := pick_lt (c := f) (n := pick a 41 - pick e (pick a 41 + 1) + 1) (by omega)
  have m1 := Int.emod_nonneg base (b := 9223372036854775808 - 2 * pick a 41) (by omega)
  have m2 := Int.emod_lt_of_pos base (b := 9223372036854775808 - 2 * pick a 41) (by omega)
  refine ⟨rightL_iff.2 ?_, by simp only [lay7]; omega⟩
  simp only [lay7]
  omega
theorem lay7_vc {base a b c d e f : Int} (hb : U64 base) (ha : Fit a) (h2 : Fit b) (hc : Fit c) (hd : Fit d) (he : Fit e) (hf : Fit f) :
    VC Try.prog 48 false [vu base, i6V a b c d e f] (lyV (lay7 base a b c d e f)) := by
  refine vc_of_wp Try.func48 follows (by kernel_rfl) c48 rfl ?_
  have p1 := pick_lt (c := a) (n := 41) (by omega)
  have p3 := pick_lt (c := c) (n := pick a 41 + 1) (by omega)
  have p4 := pick_lt (c := d) (n := pick a 41 - pick c (pick a 41 + 1) + 1) (by omega)
  have p5 := pick_lt (c := e) (n := pick a 41 + 1) (by omega)
  have p6 := pick_lt (c := f) (n := pick a 41 - pick e (pick a 41 + 1) + 1) (by omega)
  have m1 := Int.emod_nonneg base (b := 9223372036854775808 - 2 * pick a 41) (by omega)
  have m2 := Int.emod_lt_of_pos base (b := 9223372036854775808 - 2 * pick a 41) (by omega)
  unfold lay7
  have k1 := pick07_vc ha (n := 41) (by omega)
  have k2 := pick07_vc h2 (n := 2) (by omega)
  have k3 := pick07_vc hc (n := pick a 41 + 1) (by omega)
  have k4 := pick07_vc hd (n := pick a 41 - pick c (pick a 41 + 1) + 1) (by omega)
  have k5 := pick07_vc he (n := pick a 41 + 1) (by omega)
  have k6 := pick07_vc hf (n := pick a 41 - pick e (pick a 41 + 1) + 1) (by omega)
  simp only
  generalize pick a 41 = cap at *
  generalize pick c (cap + 1) = low at *
  generalize pick e (cap + 1) = old at *
  have w1 := wrap_i (cap + 1) (by omega) (by omega)
  have w2 := wrap_i (cap - low) (by omega) (by omega)
  have w3 := wrap_i (cap - low + 1) (by omega) (by omega)
  have w4 := wrap_i (cap - old) (by omega) (by omega)
  have w5 := wrap_i (cap - old + 1) (by omega) (by omega)
  have u0 := wrap_u cap (by omega) (by omega)
  have u1 := wrap_u (2 * cap) (by omega) (by omega)
  have u2 := wrap_u (9223372036854775808 - 2 * cap) (by omega) (by omega)
  have u3 := wrap_u (1 + base % (9223372036854775808 - 2 * cap)) (by omega) (by omega)
  have hne : ¬ (9223372036854775808 - 2 * cap = 0) := by omega
  have hbb := hb.1
  have u4 : base.tmod (9223372036854775808 - 2 * cap) = base % (9223372036854775808 - 2 * cap) := Int.tmod_eq_emod_of_nonneg hbb
  simp [p48, i6V]
  refine callW_of k1 (by simp) ?_
  simp
  refine callW_of k2 (by simp) ?_
  simp [u0, u1, u2, u3, u4, hne, w1]
  refine callW_of k3 (by simp) ?_
  simp [w2, w3]
  refine callW_of k4 (by simp) ?_
  simp [w1]
  refine callW_of k5 (by simp) ?_
  simp [w4, w5]
  refine callW_of k6 (by simp) ?_
  simp [lyV]
def smStep (ws : List Int) (i : Nat) (s : List Int × Nat) : List Int × Nat :=
  (s.1 ++ [if s.2 < ws.length then IntKind.u64.wrap (i + ws.getD s.2 0) else (i : Int)], if ws.length ≤ s.2 + 1 then 0 else s.2 + 1)
def smN (ws : List Int) (a : Nat) : Nat → List Int × Nat
  | 0 => ([], a)
  | i + 1 => smStep ws i (smN ws a i)
def someW (ws : List Int) (fr : Int) (n : Nat) : List Int := (smN ws (if ws = [] then 0 else (pick fr ws.length).toNat) n).1
theorem smN_len (ws : List Int) (a : Nat) : ∀ n, (smN ws a n).1.length = n
  | 0 => rfl
  | n + 1 => by simp [smN, smStep, smN_len ws a n]
theorem smN_u {ws : List Int} {a : Nat} : ∀ {n : Nat}, n ≤ 1000000 → ∀ w ∈ (smN ws a n).1, U64 w
  | 0, _ => by simp [smN]
  | n + 1, hn => by
    intro w hw
    simp only [smN, smStep, List.mem_append, List.mem_singleton] at hw
    rcases hw with hw | hw
    · exact smN_u (by omega) w hw
    · subst hw
      split
      · rw [IntKind.wrap_u64]
        unfold U64
        omega
      · unfold U64; omega
theorem smN_at {ws : List Int} {a : Nat} (ha : a < ws.length ∨ a = 0) : ∀ n, (smN ws a n).2 < ws.length ∨ (smN ws a n).2 = 0
  | 0 => ha
  | n + 1 => by
    simp only [smN, smStep]
    split
    · exact .inr rfl
    · exact .inl (by omega)
theorem some_vc {ws : List Int} (hl : ws.length ≤ 9223372036854775807) {fr : Int} (hf : Fit fr) {n : Nat} (hn : n ≤ 100000) : VC Try.prog 53 false [.sl (ws.map vu), vi fr, vi (n : Int)] (.sl ((someW ws fr n).map vu)) := by
  refine vc_of_wp Try.func53 follows (by kernel_rfl) c53 rfl ?_
  unfold someW
  obtain ⟨a, ha⟩ : ∃ a, (if ws = [] then 0 else (pick fr ws.length).toNat) = a := ⟨_, rfl⟩
  rw [ha]
  simp [p53]
  by_cases h0 : ws = []
  case' pos =>
    rw [if_pos h0] at ha
    have hz : ws.length = 0 := by rw [h0]; rfl
    have ha' : a = 0 := ha.symm
    have hal : a < ws.length ∨ a = 0 := .inr ha'
    simp [hz]
  case' neg =>
    rw [if_neg h0] at ha
    have hpos : 0 < ws.length := List.length_pos_iff.2 h0
    have hpk := pick_lt (c := fr) (n := (ws.length : Int)) (by omega)
    have k1 := pick10_vc hf (n := (ws.length : Int)) (by omega)
    have hpa : pick fr (ws.length : Int) = a := by omega
    rw [hpa] at k1 hpk
    simp [h0, hpos]
    refine callW_of k1 (by simp) ?_
    have hal : a < ws.length ∨ a = 0 := .inl (by omega)
    have ha' : True := trivial
    simp
  all_goals
    refine wpS_for 7 n (fun i => [(4, .v (.sl ((smN ws a i).1.map vu))), (5, .v (vi (smN ws a i).2)), (7, .v (vi i))]) (fun _ => True) (by simp [smN, ha']) (by simp) trivial ?_
    intro i hi _
    have hwi := wrap_i ((i : Int) + 1) (by omega) (by omega)
    have hui := wrap_u (i : Int) (by omega) (by omega)
    by_cases hlt : i < n
    · have hat := smN_at hal i
      have hln := smN_len ws a i
      have hst : smN ws a (i + 1) = smStep ws i (smN ws a i) := rfl
      rw [hst]
      unfold smStep
      generalize (smN ws a i).1 = l at *
      generalize (smN ws a i).2 = q at *
      have hwq := wrap_i ((q : Int) + 1) (by omega) (by omega)
      have hlim : l.length + 1 ≤ lim := by unfold lim; omega
      by_cases hq : q < ws.length
      · have hx : ws[q]? = some ws[q] := List.getElem?_eq_getElem hq
        generalize ws[q] = w at *
        by_cases hq2 : ws.length ≤ q + 1
        · have hq3 : (ws.length : Int) ≤ (q : Int) + 1 := by omega
          simp [hlt, hwi, hui, hq, hx, at_of hx, hwq, hq2, hq3, hlim]
        · have hq3 : ¬ (ws.length : Int) ≤ (q : Int) + 1 := by omega
          simp [hlt, hwi, hui, hq, hx, at_of hx, hwq, hq2, hq3, hlim]
      · have hq2 : ws.length ≤ q + 1 := by omega
        have hq3 : (ws.length : Int) ≤ (q : Int) + 1 := by omega
        simp [hlt, hwi, hui, hq, hwq, hq2, hq3, hlim]
    · have : i = n := by omega
      subst this
      simp
end Vm
