/-
  Layer 13's second law: two times is as once.
-/
import Derived.Test.YtfplljcicihneaaPd
namespace Vm
open Go Go.Proofs
set_option linter.unusedSimpArgs false
set_option linter.unusedVariables false
set_option maxRecDepth 100000
set_option maxHeartbeats 1000000
theorem law13Again (hF : FwdOk) {x : Rw} (hx : x.ok) {part at_ other : Int} (hp : Fit part) (ha : Fit at_) (ho : Fit other) :
    VC Try.prog 4 false [rwV x, vi part, vi at_, vi other] (.bool true) := by
  refine vc_of_wp Try.func4 follows (by kernel_rfl) c4 rfl ?_
  obtain ⟨ok1, hr1, hro⟩ := heapX_ok hx
  simp [p4]
  refine callW_of (awake13_vc hF) (by simp) ?_
  simp
  refine callW_of (Heap_vc hx) (by simp [rwV]) ?_
  simp
  have q1 := pick_lt (c := part) (n := 4) (by omega)
  have q2 := pick_lt (c := part.tdiv 4) (n := 4) (by omega)
  have hp4 : Fit (part.tdiv 4) := tdiv4_fit hp
  have w1 := wrap_i (1 + pick part 4) (by omega) (by omega)
  have w2 := wrap_i (1 + pick (part.tdiv 4) 4) (by omega) (by omega)
  have w3 := wrap_i (part.tdiv 4) hp4.1 hp4.2
  refine callW_of (pick13_vc hp (by omega)) (by simp) ?_
  have big := again_ptrs hr1 (k := 1 + pick part 4) (j := 1 + pick (part.tdiv 4) 4) (c := at_) (d := other) (by omega) (by omega)
  have u1 := @ptrR_u (heapX x) (1 + pick part 4) at_
  have u2 := @ptrR_u (heapX x) (1 + pick (part.tdiv 4) 4) other
  have p1 := Pointer_vc ok1 (part := 1 + pick part 4) ha
  have p2 := Pointer_vc ok1 (part := 1 + pick (part.tdiv 4) 4) ho
  generalize heapX x = h at *
  simp [w1]
  refine callW_of p1 (by simp) ?_
  simp [w3]
  refine callW_of (pick13_vc hp4 (by omega)) (by simp) ?_
  simp [w2]
  refine callW_of p2 (by simp) ?_
  generalize ptrR h (1 + pick part 4) at_ = w at *
  generalize ptrR h (1 + pick (part.tdiv 4) 4) other = v at *
  obtain ⟨⟨b1, b2, b3⟩, b4, b5, b6, b7, b8⟩ := big
  have f1 := hF h w ok1 u1
  have o1 := fwd_ok ok1 u1
  have f2 := hF (fwd h w).2.1 w o1.1 u1
  have f3 := hF (fwd h w).2.1 (fwd h w).1 o1.1 o1.2
  have f4 := hF (fwd h w).2.1 v o1.1 u2
  have f5 := hF h v ok1 u2
  have o2 := fwd_ok ok1 u2
  have f6 := hF (fwd h v).2.1 w o2.1 u1
  have s1 := sameH_vc (b := (fwd h w).2.1) o1.1
  rw [b2] at f2
  rw [b3] at f3
  simp
  refine callW_of f1 (by simp [hpV]) ?_
  simp [fwO]
  generalize (fwd h w).1 = a at *
  generalize (fwd h w).2.1 = g at *
  generalize (fwd h w).2.2 = e at *
  subst b1
  try simp
  refine callW_of f2 (by simp [hpV]) ?_
  simp [fwO]
  refine callW_of f3 (by simp [hpV]) ?_
  simp [fwO]
  refine callW_of s1 (by simp [hpV]) ?_
  simp
  refine callW_of s1 (by simp [hpV]) ?_
  simp
  refine callW_of f4 (by simp [hpV]) ?_
  simp [fwO]
  refine callW_of f5 (by simp [hpV]) ?_
  simp [fwO]
  refine callW_of f6 (by simp [hpV]) ?_
  simp [fwO]
  generalize (fwd (fwd h v).2.1 w).1 = s at *
  generalize (fwd (fwd h v).2.1 w).2.1 = t at *
  generalize (fwd (fwd h v).2.1 w).2.2 = e1 at *
  generalize (fwd h v).1 = q at *
  generalize (fwd h v).2.1 = o at *
  generalize (fwd h v).2.2 = e2 at *
  generalize (fwd g v).1 = r at *
  generalize (fwd g v).2.1 = m at *
  generalize (fwd g v).2.2 = e3 at *
  subst b4 b5 b6
  have b7' : ¬ ((m.low.length : Int) < o.low.length) := by omega
  simp [b7']
  exact ⟨b7, b8⟩
end Vm
