/-
  Which heaps may be (the document's answer of layer 11): what it computes.
-/
import Derived.Test.YtfplljcicihneaaCb
namespace Vm
open Go Go.Proofs
set_option linter.unusedSimpArgs false
set_option linter.unusedVariables false
set_option maxRecDepth 100000
set_option maxHeartbeats 1000000
structure Pts where
  low : List Ob
  high : List Ob
  old : List Ob
  far : List Ob
  deriving Inhabited
def ptsV (p : Pts) : V := .sl [.sl [], .sl (p.low.map obV), .sl (p.high.map obV), .sl (p.old.map obV), .sl (p.far.map obV)]
def Pts.at (p : Pts) (k : Int) : List Ob := if k = 1 then p.low else if k = 2 then p.high else if k = 3 then p.old else p.far
@[simp] theorem Pts.at1 (p : Pts) : p.at 1 = p.low := rfl
@[simp] theorem Pts.at2 (p : Pts) : p.at 2 = p.high := rfl
@[simp] theorem Pts.at3 (p : Pts) : p.at 3 = p.old := rfl
@[simp] theorem Pts.at4 (p : Pts) : p.at 4 = p.far := rfl
structure Pts.ok (p : Pts) (h : Hp) : Prop where
  ob : ∀ k, ∀ o ∈ p.at k, ObIn (partH h k).length o ∧ U64 o.target
  len : ∀ k, (p.at k).length ≤ 1000000
theorem shapesR_len {h : Hp} {ws : List Int} {low : List Ob} : ∀ (f i : Nat) (acc l : List (Int × Int)), acc.length ≤ i → acc.length ≤ ws.length → shapesR h ws low f i acc = some l → l.length ≤ ws.length
  | 0, _, _, _, _, _, he => by simp [shapesR] at he
  | f + 1, i, acc, l, h1, h2, he => by
    simp only [shapesR] at he
    split at he
    · cases he; exact h2
    · rename_i w hx
      have hlt := (List.getElem?_eq_some_iff.1 hx).1
      split at he
      · split at he
        · cases he
        · exact shapesR_len f _ _ _ (by simp; omega) (by simp; omega) he
      · split at he
        · exact shapesR_len f _ _ _ (by omega) h2 he
        · cases he
def partsR (h : Hp) : Option Pts :=
  let low := walkW h.low [] false
  let high := walkW h.high [] false
  if low.2 ≠ 0 ∨ high.2 ≠ 0 then none else
  let p := shapesW h h.old low.1
  let q := shapesW h h.far low.1
  let old := walkW h.old (p.getD []) true
  let far := walkW h.far (q.getD []) true
  if p = none ∨ q = none ∨ old.2 ≠ 0 ∨ far.2 ≠ 0 then none else some ⟨low.1, high.1, old.1, far.1⟩
def ptO : Option Pts → V
  | some p => .tup [ptsV p, .bool true]
  | none => .tup [.sl [], .bool false]
theorem parts_ok {h : Hp} (hh : h.ok) {p : Pts} (hp : partsR h = some p) : p.ok h := by
  unfold partsR at hp
  dsimp only at hp
  split at hp
  · cases hp
  split at hp
  · cases hp
  · cases hp
    refine ⟨fun k o ho => ?_, fun k => ?_⟩
    · unfold Pts.at at ho
      unfold partH
      split at ho
      · rename_i e; rw [if_pos e]; exact walkW_in hh.lowW o ho
      rename_i e1
      rw [if_neg e1]
      split at ho
      · rename_i e; rw [if_pos e]; exact walkW_in hh.highW o ho
      rename_i e2
      rw [if_neg e2]
      split at ho
      · rename_i e; rw [if_pos e]; exact walkW_in hh.oldW o ho
      · rename_i e; rw [if_neg e]; exact walkW_in hh.farW o ho
    · unfold Pts.at
      split
      · exact Nat.le_trans walkW_len hh.low
      split
      · exact Nat.le_trans walkW_len hh.high
      split
      · exact Nat.le_trans walkW_len hh.old
      · exact Nat.le_trans walkW_len hh.far
theorem parts_vc {h : Hp} (hh : h.ok) : VC Try.prog 70 false [hpV h] (ptO (partsR h)) := by
  refine vc_of_wp Try.func70 follows (by kernel_rfl) c70 rfl ?_
  simp [p70]
  refine callW_of (refWalk_vc hh.low hh.lowW) (by simp) ?_
  simp
  refine callW_of (refWalk_vc hh.high hh.highW) (by simp) ?_
  simp
  unfold partsR
  dsimp only
  have hls : ∀ o ∈ (walkW h.low [] false).1, shapeOk o.size o.ptrs = true := fun o ho => (walkW_in hh.lowW o ho).1.2
  have hll : (walkW h.low [] false).1.length ≤ 1000000 := Nat.le_trans walkW_len hh.low
  generalize walkW h.low [] false = low at *
  generalize walkW h.high [] false = high at *
  by_cases e1 : low.2 = 0
  case neg => simp [e1, ptO]
  by_cases e2 : high.2 = 0
  case neg => simp [e1, e2, ptO]
  have k1 := shapes_vc hh (ws := h.old) (low := low.1) hh.old hh.oldW hll hls
  have k2 := shapes_vc hh (ws := h.far) (low := low.1) hh.far hh.farW hll hls
  have hp : ((shapesW h h.old low.1).getD []).length ≤ 1000000 := by
    cases hq : shapesW h h.old low.1 with
    | none => simp
    | some l => exact Nat.le_trans (shapesR_len _ _ _ _ (by simp) (by simp) hq) hh.old
  have hq : ((shapesW h h.far low.1).getD []).length ≤ 1000000 := by
    cases hq : shapesW h h.far low.1 with
    | none => simp
    | some l => exact Nat.le_trans (shapesR_len _ _ _ _ (by simp) (by simp) hq) hh.far
  generalize shapesW h h.old low.1 = p at *
  generalize shapesW h h.far low.1 = q at *
  have k3 := refWalkOld_vc hh.old hp hh.oldW
  have k4 := refWalkOld_vc hh.far hq hh.farW
  generalize walkW h.old (p.getD []) true = old at *
  generalize walkW h.far (q.getD []) true = far at *
  have hpV : ∃ b, shO p = .tup [.sl ((p.getD []).map shP), .bool b] ∧ (b = true ↔ p ≠ none) := by
    cases p with
    | none => exact ⟨false, rfl, by simp⟩
    | some l => exact ⟨true, rfl, by simp⟩
  have hqV : ∃ b, shO q = .tup [.sl ((q.getD []).map shP), .bool b] ∧ (b = true ↔ q ≠ none) := by
    cases q with
    | none => exact ⟨false, rfl, by simp⟩
    | some l => exact ⟨true, rfl, by simp⟩
  obtain ⟨bp, hpe, hbp⟩ := hpV
  obtain ⟨bq, hqe, hbq⟩ := hqV
  rw [hpe] at k1
  rw [hqe] at k2
  simp [e1, e2]
  refine callW_of k1 (by simp [hpV]) ?_
  simp
  refine callW_of k2 (by simp [hpV]) ?_
  simp
  refine callW_of k3 (by simp) ?_
  simp
  refine callW_of k4 (by simp) ?_
  cases hpn : p with
  | none =>
    have : bp = false := by cases bp <;> simp_all
    simp [this, ptO]
  | some pl =>
    have h1 : bp = true := hbp.2 (by rw [hpn]; simp)
    cases hqn : q with
    | none =>
      have : bq = false := by cases bq <;> simp_all
      simp [h1, this, ptO]
    | some ql =>
      have h2 : bq = true := hbq.2 (by rw [hqn]; simp)
      by_cases e3 : old.2 = 0
      case neg => simp [h1, h2, e3, ptO]
      by_cases e4 : far.2 = 0
      case neg => simp [h1, h2, e3, e4, ptO]
      simp [h1, h2, e3, e4, ptO, ptsV]
def goesR (h : Hp) (p : Pts) (w one two : Int) : Bool := decide (w = 0) || (decide ((adr w).2 = 0) && ((atR h one (p.at one) (adr w).1).isSome || (atR h two (p.at two) (adr w).1).isSome))
theorem obO_is (x : Option Ob) : ∃ o : Ob, obO x = .tup [obV o, .bool x.isSome] := by
  cases x with
  | none => exact ⟨_, rfl⟩
  | some o => exact ⟨_, rfl⟩
theorem goes_vc {h : Hp} (hh : h.ok) {p : Pts} (hp : p.ok h) {w one two : Int} (hw : U64 w) (ho : (one = 1 ∧ two = 2) ∨ (one = 3 ∧ two = 4)) : VC Try.prog 73 false [hpV h, ptsV p, vu w, vi one, vi two] (.bool (goesR h p w one two)) := by
  refine vc_of_wp Try.func73 follows (by kernel_rfl) c73 rfl ?_
  by_cases h0 : w = 0
  · simp [p73, h0, goesR]
  simp [p73, h0]
  refine callW_of (refAdr_vc hw) (by simp) ?_
  by_cases ha : (adr w).2 = 0
  case neg => simp [ha, goesR, h0]
  have k1 := at_vc hh (part := one) (a := (adr w).1) (l := p.at one) (hp.len one)
  have k2 := at_vc hh (part := two) (a := (adr w).1) (l := p.at two) (hp.len two)
  unfold goesR
  obtain ⟨o1, e1⟩ := obO_is (atR h one (p.at one) (adr w).1)
  obtain ⟨o2, e2⟩ := obO_is (atR h two (p.at two) (adr w).1)
  rw [e1] at k1
  rw [e2] at k2
  generalize (atR h one (p.at one) (adr w).1).isSome = b1 at *
  generalize (atR h two (p.at two) (adr w).1).isSome = b2 at *
  rcases ho with ⟨rfl, rfl⟩ | ⟨rfl, rfl⟩
  · simp [ha, h0, ptsV, idxV]
    refine callW_of k1 (by simp [hpV]) ?_
    simp [ptsV, idxV]
    refine callW_of k2 (by simp [hpV]) ?_
    cases b1 <;> simp
  · simp [ha, h0, ptsV, idxV]
    refine callW_of k1 (by simp [hpV]) ?_
    simp [ptsV, idxV]
    refine callW_of k2 (by simp [hpV]) ?_
    cases b1 <;> simp
def wtO (o : Ob) : Nat := if o.gone then 0 else 1 + o.size.toNat
def wtL (l : List Ob) : Nat := (l.map wtO).sum
theorem wtL_succ {l : List Ob} {i : Nat} {o : Ob} (h : l[i]? = some o) : wtL (l.take (i + 1)) = wtL (l.take i) + wtO o := by
  unfold wtL
  rw [List.take_add_one, h, List.map_append, List.sum_append]; simp
theorem wtL_le {l : List Ob} (h : ∀ o ∈ l, shapeOk o.size o.ptrs = true) : wtL l ≤ 256 * l.length := by
  induction l with
  | nil => simp [wtL]
  | cons o l ih =>
    have h1 := ih fun x hx => h x (by simp [hx])
    have h2 := shapeOk_iff.1 (h o (by simp))
    have h3 : wtO o ≤ 256 := by unfold wtO; split <;> omega
    have h4 : wtL (o :: l) = wtO o + wtL l := by simp [wtL]
    simp only [List.length_cons]
    omega
def waitR (p : Pts) : Nat := wtL p.old + wtL p.far
theorem waiting_vc {h : Hp} {p : Pts} (hp : p.ok h) : VC Try.prog 75 false [ptsV p] (vi (waitR p)) := by
  refine vc_of_wp Try.func75 follows (by kernel_rfl) c75 rfl ?_
  simp [p75]
  have hs : ∀ k, ∀ o ∈ p.at k, shapeOk o.size o.ptrs = true := fun k o ho => (hp.ob k o ho).1.2
  have hl := hp.len
  -- one part
  refine wpS_loopP (fun (i : Nat) => [(2, .v (vi ((if 0 < i then wtL p.old else 0) + (if 1 < i then wtL p.far else 0) : Nat))), (3, .v (vi ((i + 3 : Nat) : Int)))]) (fun i => i ≤ 2) (cnt 3 5) 0 (by simp) (by simp) ?_
  rintro i hi
  have hb3 := wtL_le (hs 3)
  have hb4 := wtL_le (hs 4)
  have hl3 := hl 3
  have hl4 := hl 4
  simp only [Pts.at3, Pts.at4] at hb3 hb4 hl3 hl4
  have hi' : i = 0 ∨ i = 1 ∨ i = 2 := by omega
  rcases hi' with rfl | rfl | rfl
  · simp
    refine wpS_for 5 p.old.length (fun j => [(2, .v (vi (wtL (p.old.take j)))), (5, .v (vi j))]) (fun _ => True) (by simp [wtL]) (fun i => by simp) trivial ?_
    rintro j hj -
    have hwj := wrap_i ((j : Int) + 1) (by omega) (by omega)
    by_cases h1 : j < p.old.length
    · have hx : p.old[j]? = some p.old[j] := List.getElem?_eq_getElem h1
      have hsx := hs 3 _ (List.getElem_mem h1)
      have hsc := wtL_succ hx
      generalize p.old[j] = o at *
      have hle : wtL (p.old.take j) ≤ 256 * p.old.length := by
        refine Nat.le_trans (wtL_le fun o ho => hs 3 o (List.mem_of_mem_take ho)) ?_
        simp; omega
      obtain ⟨g1, g2, g3, g4⟩ := shapeOk_iff.1 hsx
      obtain ⟨z, hz⟩ := Int.eq_ofNat_of_zero_le g1
      have w1 := wrap_i ((wtL (p.old.take j) : Int) + 1) (by omega) (by omega)
      have w2 := wrap_i ((wtL (p.old.take j) : Int) + 1 + z) (by omega) (by omega)
      cases hg : o.gone
      · have hwo : wtO o = 1 + z := by simp [wtO, hg, hz]
        simp [ptsV, idxV, h1, hx, at_of hx, hg, hz, w1, w2, hwj, hsc, hwo]
        omega
      · have hwo : wtO o = 0 := by simp [wtO, hg]
        simp [ptsV, idxV, h1, hx, at_of hx, hg, hwj, hsc, hwo]
    · have : j = p.old.length := by omega
      subst this
      rw [List.take_length]
      simp [ptsV, idxV, wrap_i]
      exact ⟨1, by omega, by simp, by simp [cnt]⟩
  · simp
    refine wpS_for 5 p.far.length (fun j => [(2, .v (vi (wtL p.old + wtL (p.far.take j) : Nat))), (5, .v (vi j))]) (fun _ => True) (by simp [wtL]) (fun i => by simp) trivial ?_
    rintro j hj -
    have hwj := wrap_i ((j : Int) + 1) (by omega) (by omega)
    by_cases h1 : j < p.far.length
    · have hx : p.far[j]? = some p.far[j] := List.getElem?_eq_getElem h1
      have hsx := hs 4 _ (List.getElem_mem h1)
      have hsc := wtL_succ hx
      generalize p.far[j] = o at *
      have hle : wtL (p.far.take j) ≤ 256 * p.far.length := by
        refine Nat.le_trans (wtL_le fun o ho => hs 4 o (List.mem_of_mem_take ho)) ?_
        simp; omega
      obtain ⟨g1, g2, g3, g4⟩ := shapeOk_iff.1 hsx
      obtain ⟨z, hz⟩ := Int.eq_ofNat_of_zero_le g1
      have w1 := wrap_i ((wtL p.old : Int) + wtL (p.far.take j) + 1) (by omega) (by omega)
      have w2 := wrap_i ((wtL p.old : Int) + wtL (p.far.take j) + 1 + z) (by omega) (by omega)
      cases hg : o.gone
      · have hwo : wtO o = 1 + z := by simp [wtO, hg, hz]
        simp [ptsV, idxV, h1, hx, at_of hx, hg, hz, w1, w2, hwj, hsc, hwo]
        omega
      · have hwo : wtO o = 0 := by simp [wtO, hg]
        simp [ptsV, idxV, h1, hx, at_of hx, hg, hwj, hsc, hwo]
    · have : j = p.far.length := by omega
      subst this
      rw [List.take_length]
      simp [ptsV, idxV, wrap_i]
      exact ⟨2, by omega, by simp, by simp [cnt]⟩
  · simp [waitR]
def tgL (l : List Ob) (a : Int) : Nat := (l.filter fun o => o.gone && decide (o.target = a)).length
theorem tgL_succ {l : List Ob} {i : Nat} {o : Ob} {a : Int} (h : l[i]? = some o) : tgL (l.take (i + 1)) a = tgL (l.take i) a + if (o.gone && decide (o.target = a)) = true then 1 else 0 := by
  unfold tgL
  rw [List.take_add_one, h, List.filter_append, List.length_append]
  simp [List.filter]
  split <;> simp_all
def targR (p : Pts) (a : Int) : Nat := tgL p.old a + tgL p.far a
end Vm
