/-
  Layer 11's first law.
-/
import Derived.Test.YtfplljcicihneaaOa
namespace Vm
open Go Go.Proofs
set_option linter.unusedSimpArgs false
set_option linter.unusedVariables false
set_option maxRecDepth 100000
set_option maxHeartbeats 1000000
/-- a heap as it may come: any numbers, any lists -/
structure Hp.raw (h : Hp) : Prop where
  base : U64 h.base
  cap : Fit h.cap
  to : Fit h.to
  scan : Fit h.scan
  len : ∀ k, (partH h k).length ≤ 9223372036854775807
  roots : h.roots.length ≤ 9223372036854775807
  words : ∀ k, ∀ w ∈ partH h k, U64 w
  rootsW : ∀ w ∈ h.roots, U64 w
def fewN (h : Hp) : Nat → Hp
  | 0 => h
  | k + 1 => withH (fewN h k) ((k + 1 : Nat) : Int) ((partH (fewN h k) ((k + 1 : Nat) : Int)).take 12)
theorem slc_min {l : List Int} {k : Nat} {K : Int} [inst : Decidable (K < (l.length : Int))] (h : K = k) : slcV 1 (.sl (l.map vu)) (.int .i64 0) (.int .i64 (if K < (l.length : Int) then K else (l.length : Int))) = some (.sl ((l.take k).map vu)) := by
  have e : (if K < (l.length : Int) then K else (l.length : Int)) = ((min l.length k : Nat) : Int) := by split <;> omega
  rw [e]
  have := slcV_nat (k := .i64) (l := l.map vu) 0 (min l.length k) 1
  rw [show ((0 : Nat) : Int) = 0 from rfl] at this
  rw [this, if_pos ⟨by omega, by simp; omega, sizeOk_map fun _ => rfl⟩]
  congr 2
  rw [List.drop_zero, ← List.map_take]
  congr 1
  rw [List.take_eq_take_iff]
  omega
theorem few_ok {h : Hp} (ho : h.raw) : ({ fewN h 4 with roots := h.roots.take 20 } : Hp).ok := by
  have w1 := ho.words 1
  have w2 := ho.words 2
  have w3 := ho.words 3
  have w4 := ho.words 4
  have e : ({ fewN h 4 with roots := h.roots.take 20 } : Hp) = { h with low := h.low.take 12, high := h.high.take 12, old := h.old.take 12, far := h.far.take 12, roots := h.roots.take 20 } := by rfl
  rw [e]
  exact ⟨ho.base, ho.cap, ho.to, ho.scan, by simp; omega, by simp; omega, by simp; omega, by simp; omega, by simp; omega, fun w hw => w1 w (List.mem_of_mem_take hw), fun w hw => w2 w (List.mem_of_mem_take hw), fun w hw => w3 w (List.mem_of_mem_take hw), fun w hw => w4 w (List.mem_of_mem_take hw), fun w hw => ho.rootsW w (List.mem_of_mem_take hw)⟩
theorem withH_part_le {h : Hp} {k j : Int} {l : List Int} (hl : l.length ≤ (partH h k).length + 1) : (partH (withH h k l) j).length ≤ (partH h j).length + 1 := by
  unfold withH
  by_cases a1 : k = 1
  · subst a1
    by_cases b1 : j = 1
    · subst b1; simpa [partH] using hl
    · simp [partH, b1]
  by_cases a2 : k = 2
  · subst a2
    by_cases b1 : j = 1
    · subst b1; simp [partH]
    by_cases b2 : j = 2
    · subst b2; simpa [partH] using hl
    · simp [partH, b1, b2]
  by_cases a3 : k = 3
  · subst a3
    by_cases b1 : j = 1
    · subst b1; simp [partH]
    by_cases b2 : j = 2
    · subst b2; simp [partH]
    by_cases b3 : j = 3
    · subst b3; simpa [partH] using hl
    · simp [partH, b1, b2, b3]
  · simp only [partH, a1, a2, a3, if_false] at hl ⊢
    split
    · omega
    split
    · omega
    split <;> omega
theorem turned_len (h : Hp) (which x w k : Int) : (partH (turned h which x w) k).length ≤ (partH h k).length + 1 := by
  unfold turned
  split
  · exact Nat.le_succ _
  split
  · exact Nat.le_succ _
  split
  · exact Nat.le_succ _
  split
  · exact Nat.le_succ _
  split
  · exact Nat.le_succ _
  split
  · exact withH_part_le (by simp)
  split
  · exact withH_part_le (by simp; omega)
  split
  · exact Nat.le_succ _
  · exact withH_part_le (by simp)
theorem withH_roots (h : Hp) (k : Int) (l : List Int) : (withH h k l).roots = h.roots := by
  unfold withH
  split <;> (try split) <;> (try split) <;> rfl
theorem turned_roots (h : Hp) (which x w : Int) : (turned h which x w).roots.length ≤ h.roots.length + 1 := by
  unfold turned
  split
  · exact Nat.le_succ _
  split
  · exact Nat.le_succ _
  split
  · exact Nat.le_succ _
  split
  · exact Nat.le_succ _
  split
  · simp
  split
  · rw [withH_roots]; exact Nat.le_succ _
  split
  · rw [withH_roots]; exact Nat.le_succ _
  split
  · exact Nat.le_succ _
  · rw [withH_roots]; exact Nat.le_succ _
theorem pick_fit {n : Int} {k : Int} (hk : 0 < k ∧ k ≤ 1000) : Fit (pick n k) := by
  have := pick_lt (c := n) hk.1
  unfold Fit
  omega
theorem law11Tells {odd : Hp} (ho : odd.raw) {x : Rw} (hx : x.ok) {which n w other part : Int} (hwh : Fit which) (hn : Fit n) (hw : U64 w) (hot : Fit other) (hpa : Fit part) :
    VC Try.prog 5 false [hpV odd, rwV x, vi which, vi n, vu w, vi other, vi part] (.bool true) := by
  refine vc_of_wp Try.func5 follows (by kernel_rfl) c5 rfl ?_
  simp [p5]
  refine callW_of awake11_vc (by simp) ?_
  simp
  refine wpS_loopP (fun i : Nat => [(11, .m (hpCs (fewN odd i))), (12, .v (vi ((i : Int) + 1)))]) (fun i => i ≤ 4) (cnt 12 5) 0 (by simp [hpCs, fewN]) (by simp) ?_
  rintro i hi
  by_cases hlt : i < 4
  · have hlt' : (i : Int) + 1 ≤ 4 := by omega
    have k1 := Part_vc (h := fewN odd i) (n := (i : Int) + 1)
    have k2 := With_vc (h := fewN odd i) (n := (i : Int) + 1) (l := (partH (fewN odd i) ((i : Int) + 1)).take 12)
    have he : withH (fewN odd i) ((i : Int) + 1) ((partH (fewN odd i) ((i : Int) + 1)).take 12) = fewN odd (i + 1) := by rw [fewN]; rfl
    rw [he] at k2
    generalize hg2 : fewN odd (i + 1) = g2 at *
    generalize fewN odd i = g at *
    generalize partH g ((i : Int) + 1) = ws at *
    unfold hpV at k1 k2
    simp [hlt', hpCs]
    refine callW_of k1 (by simp) ?_
    simp
    refine callW_of k1 (by simp) ?_
    simp
    rw [slc_min (k := 12) (K := 12) rfl]
    generalize ws.take 12 = ws2 at *
    simp only [onO]
    refine callW_of k2 (by simp) ?_
    have hw12 := wrap_i ((i : Int) + 1 + 1) (by omega) (by omega)
    simp [hw12]
    exact ⟨i + 1, by omega, ⟨by rw [hg2]; simp, by simp⟩, by simp [cnt]; omega⟩
  · have : i = 4 := by omega
    subst this
    simp [hpCs]
    rw [slc_min (k := 20) (K := 20) rfl]
    have hrt : (fewN odd 4).roots = odd.roots := by simp [fewN]
    obtain ⟨few, hfew⟩ : ∃ few : Hp, few = { fewN odd 4 with roots := odd.roots.take 20 } := ⟨_, rfl⟩
    have fok : few.ok := by
      rw [hfew]
      exact few_ok ho
    have e5 : [vu (fewN odd 4).base, vi (fewN odd 4).cap, vi (fewN odd 4).to, V.bool (fewN odd 4).cycle, vi (fewN odd 4).scan, .sl ((fewN odd 4).low.map vu), .sl ((fewN odd 4).high.map vu), .sl ((fewN odd 4).old.map vu), .sl ((fewN odd 4).far.map vu), .sl ((odd.roots.take 20).map vu)] = hpCs few := by rw [hfew]; rfl
    generalize odd.roots.take 20 = rts at *
    generalize fewN odd 4 = f4 at *
    have kh := Heap_vc hx
    obtain ⟨ok1, hr1, hro⟩ := heapX_ok hx
    have ok3 := turned_ok ok1 (fun k => Nat.le_trans (right_len hr1 k) (by omega)) (by omega) (which := which) hn hw
    have kt := Turned_vc ok1 (w := w) hwh hn
    have p50 := pick11_vc hn (n := 50) (by omega)
    simp
    unfold rwV at kh
    refine callW_of kh (by simp) ?_
    generalize hown : heapX x = own at *
    simp
    have hnl := fun k => turned_len own which n w k
    have hnr := turned_roots own which n w
    generalize turned own which n w = near at *
    unfold hpV at kt
    refine callW_of kt (by simp) ?_
    have hcap := rightL_iff.1 hr1
    have hcq : (layH own).cap = own.cap := rfl
    have u1 := wrap_u own.cap (by omega) (by omega)
    have u2 := wrap_u (2 * own.cap) (by omega) (by omega)
    have u3 := wrap_u (2 * own.cap + 2) (by omega) (by omega)
    simp
    rw [u1, u2, u3]
    refine ⟨by omega, ?_⟩
    generalize IntKind.u64.wrap (own.base + w.tmod (2 * own.cap + 2)) = ref
    refine callW_of p50 (by simp) ?_
    have hp50 : Fit (pick n 50) := pick_fit (by omega)
    generalize pick n 50 = q at *
    simp
    have hv := wrap_u64in (IntKind.u64.wrap (2 * ref) + 1)
    generalize hvd : IntKind.u64.wrap (IntKind.u64.wrap (2 * ref) + 1) = v at *
    have kt2 := Turned_vc ok1 (w := v) hwh hp50
    have ok4 := turned_ok ok1 (fun k => Nat.le_trans (right_len hr1 k) (by omega)) (by omega) (which := which) hp50 hv
    have kt3 := Turned_vc ok3 (w := v) hot hp50
    have ok5 := turned_ok ok3 (fun k => by have := hnl k; have := right_len hr1 k; omega) (by omega) (which := other) hp50 hv
    generalize turned own which q v = t4 at *
    generalize turned near other q v = t5 at *
    unfold hpV at kt2 kt3
    refine callW_of kt2 (by simp) ?_
    simp
    refine callW_of p50 (by simp) ?_
    simp [hvd]
    refine callW_of kt3 (by simp) ?_
    simp
    have hall : ∀ h ∈ [few, own, near, t4, t5], h.ok := by
      intro h hh
      simp at hh
      rcases hh with rfl | rfl | rfl | rfl | rfl <;> assumption
    have e6 : [V.agg [V.int IntKind.u64 f4.base, V.int IntKind.i64 f4.cap, V.int IntKind.i64 f4.to, V.bool f4.cycle, V.int IntKind.i64 f4.scan, .sl (f4.low.map vu), .sl (f4.high.map vu), .sl (f4.old.map vu), .sl (f4.far.map vu), .sl (rts.map vu)], V.agg [vu own.base, vi own.cap, vi own.to, V.bool own.cycle, vi own.scan, .sl (own.low.map vu), .sl (own.high.map vu), .sl (own.old.map vu), .sl (own.far.map vu), .sl (own.roots.map vu)], V.agg [vu near.base, vi near.cap, vi near.to, V.bool near.cycle, vi near.scan, .sl (near.low.map vu), .sl (near.high.map vu), .sl (near.old.map vu), .sl (near.far.map vu), .sl (near.roots.map vu)], V.agg [vu t4.base, vi t4.cap, vi t4.to, V.bool t4.cycle, vi t4.scan, .sl (t4.low.map vu), .sl (t4.high.map vu), .sl (t4.old.map vu), .sl (t4.far.map vu), .sl (t4.roots.map vu)], V.agg [vu t5.base, vi t5.cap, vi t5.to, V.bool t5.cycle, vi t5.scan, .sl (t5.low.map vu), .sl (t5.high.map vu), .sl (t5.old.map vu), .sl (t5.far.map vu), .sl (t5.roots.map vu)]] = [few, own, near, t4, t5].map hpV := by rw [hfew]; rfl
    rw [e6]
    have hl5 : [few, own, near, t4, t5].length = 5 := rfl
    generalize [few, own, near, t4, t5] = hs at *
    refine wpS_for0 17 5 (fun _ => True) (by simp) (by simp) trivial ?_
    intro i hi _
    have hwi := wrap_i ((i : Int) + 1) (by omega) (by omega)
    by_cases hlt : i < 5
    case neg =>
      have : i = 5 := by omega
      subst this
      simp
    have hx5 : i < hs.length := by omega
    have hxi : hs[i]? = some hs[i] := List.getElem?_eq_getElem hx5
    have hok := hall _ (List.getElem_mem hx5)
    generalize hs[i] = h at *
    have hlt' : (i : Int) < 5 := by omega
    have f1 := CR_vc hok
    have f2 := refRight_vc hok
    have f3 := CW_vc hok
    have f4' := refWaiting_vc hok
    have f5 := fun k => CO_vc hok (k := k)
    have f6 := fun k => refObjects_vc hok (part := k)
    have f7 := fun k => same_vc (a := (objsR h k).1) (b := (objsR h k).1) (objsR_len hok k) (objsR_len hok k)
    unfold hpV at f1 f2 f3 f4' f5 f6
    simp [hlt, hlt', hx5, hxi, at_of hxi, hwi]
    refine callW_of f1 (by simp) ?_
    simp
    refine callW_of f2 (by simp) ?_
    simp
    refine callW_of f3 (by simp) ?_
    simp
    refine callW_of f4' (by simp) ?_
    simp
    have e7 : [V.int IntKind.i64 1, V.int IntKind.i64 2, V.int IntKind.i64 3, V.int IntKind.i64 4, vi part] = [1, 2, 3, 4, part].map vi := rfl
    rw [e7]
    have hl6 : [(1 : Int), 2, 3, 4, part].length = 5 := rfl
    generalize [(1 : Int), 2, 3, 4, part] = ps at *
    refine wpS_for0 23 5 (fun _ => True) (by simp) (by simp) trivial ?_
    intro j hj _
    have hwj := wrap_i ((j : Int) + 1) (by omega) (by omega)
    by_cases hjt : j < 5
    case neg =>
      have : j = 5 := by omega
      subst this
      simp [hlt, hwi]
    have hjl : j < ps.length := by omega
    have hxj : ps[j]? = some ps[j] := List.getElem?_eq_getElem hjl
    generalize ps[j] = k at *
    have hjt' : (j : Int) < 5 := by omega
    have f5 := f5 k
    have f6 := f6 k
    have f7 := f7 k
    simp [hjt, hjt', hjl, hxj, at_of hxj, hwj]
    refine callW_of f5 (by simp) ?_
    simp
    refine callW_of f6 (by simp) ?_
    simp
    refine callW_of f7 (by simp) ?_
    simp [hwj]
end Vm
