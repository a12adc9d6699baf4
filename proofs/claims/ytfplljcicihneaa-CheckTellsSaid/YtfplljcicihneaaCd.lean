/-
  Which heaps may be (the document's answer of layer 11): the whole.
-/
import Derived.Test.YtfplljcicihneaaCc
namespace Vm
open Go Go.Proofs
set_option linter.unusedSimpArgs false
set_option linter.unusedVariables false
set_option maxRecDepth 100000
set_option maxHeartbeats 1000000
theorem tgL_le {l : List Ob} {a : Int} : tgL l a ≤ l.length := List.length_filter_le _ _
theorem targets_vc {h : Hp} {p : Pts} (hp : p.ok h) {a : Int} : VC Try.prog 71 false [ptsV p, vu a] (vi (targR p a)) := by
  refine vc_of_wp Try.func71 follows (by kernel_rfl) c71 rfl ?_
  simp [p71]
  have hl := hp.len
  refine wpS_loopP (fun (i : Nat) => [(3, .v (vi ((if 0 < i then tgL p.old a else 0) + (if 1 < i then tgL p.far a else 0) : Nat))), (4, .v (vi ((i + 3 : Nat) : Int)))]) (fun i => i ≤ 2) (cnt 4 5) 0 (by simp) (by simp) ?_
  rintro i hi
  have hl3 := hl 3
  have hl4 := hl 4
  simp only [Pts.at3, Pts.at4] at hl3 hl4
  have ho := tgL_le (l := p.old) (a := a)
  have hi' : i = 0 ∨ i = 1 ∨ i = 2 := by omega
  rcases hi' with rfl | rfl | rfl
  · simp
    refine wpS_for 6 p.old.length (fun j => [(3, .v (vi (tgL (p.old.take j) a))), (6, .v (vi j))]) (fun _ => True) (by simp [tgL]) (fun i => by simp) trivial ?_
    rintro j hj -
    have hwj := wrap_i ((j : Int) + 1) (by omega) (by omega)
    by_cases h1 : j < p.old.length
    · have hx : p.old[j]? = some p.old[j] := List.getElem?_eq_getElem h1
      have hsc := tgL_succ (a := a) hx
      generalize p.old[j] = o at *
      have hle : tgL (p.old.take j) a ≤ j := by
        have := tgL_le (l := p.old.take j) (a := a)
        simp at this; omega
      have w1 := wrap_i ((tgL (p.old.take j) a : Int) + 1) (by omega) (by omega)
      cases hg : o.gone
      · simp [ptsV, idxV, h1, hx, at_of hx, hg, hwj, hsc]
      · by_cases ht : o.target = a
        · simp [ptsV, idxV, h1, hx, at_of hx, hg, ht, w1, hwj, hsc]
        · simp [ptsV, idxV, h1, hx, at_of hx, hg, ht, hwj, hsc]
    · have : j = p.old.length := by omega
      subst this
      rw [List.take_length]
      simp [ptsV, idxV, wrap_i]
      exact ⟨1, by omega, by simp, by simp [cnt]⟩
  · simp
    refine wpS_for 6 p.far.length (fun j => [(3, .v (vi (tgL p.old a + tgL (p.far.take j) a : Nat))), (6, .v (vi j))]) (fun _ => True) (by simp [tgL]) (fun i => by simp) trivial ?_
    rintro j hj -
    have hwj := wrap_i ((j : Int) + 1) (by omega) (by omega)
    by_cases h1 : j < p.far.length
    · have hx : p.far[j]? = some p.far[j] := List.getElem?_eq_getElem h1
      have hsc := tgL_succ (a := a) hx
      generalize p.far[j] = o at *
      have hle : tgL (p.far.take j) a ≤ j := by
        have := tgL_le (l := p.far.take j) (a := a)
        simp at this; omega
      have w1 := wrap_i ((tgL p.old a : Int) + tgL (p.far.take j) a + 1) (by omega) (by omega)
      cases hg : o.gone
      · simp [ptsV, idxV, h1, hx, at_of hx, hg, hwj, hsc]
      · by_cases ht : o.target = a
        · simp [ptsV, idxV, h1, hx, at_of hx, hg, ht, w1, hwj, hsc]
          omega
        · simp [ptsV, idxV, h1, hx, at_of hx, hg, ht, hwj, hsc]
    · have : j = p.far.length := by omega
      subst this
      rw [List.take_length]
      simp [ptsV, idxV, wrap_i]
      exact ⟨2, by omega, by simp, by simp [cnt]⟩
  · simp [targR]
def numR (h : Hp) : Bool :=
  rightL (layH h) && decide (h.roots.length ≤ 16) && decide (0 ≤ h.scan) && decide (h.scan ≤ h.low.length) &&
    (if h.cycle then decide (h.scan < h.low.length) else decide (h.scan = h.low.length) && decide (h.old.length = 0) && decide (h.far.length = 0))
theorem numbers_vc {h : Hp} (hh : h.ok) : VC Try.prog 69 false [hpV h] (.bool (numR h)) := by
  refine vc_of_wp Try.func69 follows (by kernel_rfl) c69 rfl ?_
  simp [p69]
  refine callW_of (refLayout_vc (h := h)) (by simp [hpV]) ?_
  simp
  refine callW_of (refRightL_vc hh.lay) (by simp) ?_
  cases hr : rightL (layH h)
  case false => simp [numR, hr]
  by_cases h1 : h.roots.length ≤ 16
  case neg => simp [numR, hr, h1, show 16 < (h.roots.length : Int) by omega]
  by_cases h2 : 0 ≤ h.scan
  case neg => simp [numR, hr, h1, h2, show ¬ 16 < (h.roots.length : Int) by omega, show h.scan < 0 by omega]
  by_cases h3 : h.scan ≤ h.low.length
  case neg => simp [numR, hr, h1, h2, h3, show ¬ 16 < (h.roots.length : Int) by omega, show ¬ h.scan < 0 by omega, show (h.low.length : Int) < h.scan by omega]
  have g1 : ¬ 16 < (h.roots.length : Int) := by omega
  have g2 : ¬ h.scan < 0 := by omega
  have g3 : ¬ (h.low.length : Int) < h.scan := by omega
  cases hc : h.cycle
  · by_cases h4 : h.scan = h.low.length
    · by_cases h5 : h.old.length = 0
      · by_cases h6 : h.far.length = 0
        · simp [numR, hr, h1, h2, h3, g1, g2, g3, hc, h4, h5, h6]
        · simp [numR, hr, h1, h2, h3, g1, g2, g3, hc, h4, h5, h6]
      · simp [numR, hr, h1, h2, h3, g1, g2, g3, hc, h4, h5]
    · simp [numR, hr, h1, h2, h3, g1, g2, g3, hc, h4]
  · simp [numR, hr, h1, h2, h3, g1, g2, g3, hc]
/-- the pointers of an object go where they may -/
def ptrOk (h : Hp) (p : Pts) (part : Int) (k : Nat) : Bool :=
  let w := ((partH h part)[k]?).getD 0
  let to := goesR h p w 1 2
  let from_ := goesR h p w 3 4
  if 2 < part then from_ else if part = 1 ∧ h.scan ≤ k then to || from_ else to
def obPtrs (h : Hp) (p : Pts) (part : Int) (o : Ob) : Bool := (List.range o.ptrs.toNat).all fun j => ptrOk h p part (o.at_.toNat + 1 + j)
def ptrsR (h : Hp) (p : Pts) (part : Int) : Bool := (p.at part).all (obPtrs h p part)
theorem all_take {α : Type} {q : α → Bool} {l : List α} {i : Nat} {x : α} (h : l[i]? = some x) : (l.take (i + 1)).all q = ((l.take i).all q && q x) := by
  rw [List.take_add_one, h, List.all_append]; simp
theorem all_no {α : Type} {q : α → Bool} {l : List α} {i : Nat} {x : α} (h : l[i]? = some x) (hq : q x = false) : l.all q = false := by
  rw [List.all_eq_false]
  exact ⟨x, List.mem_of_getElem? h, by simp [hq]⟩
theorem pointers_vc {h : Hp} (hh : h.ok) {p : Pts} (hp : p.ok h) {part : Nat} (hk : 1 ≤ part ∧ part ≤ 4) (hw : ∀ w ∈ partH h part, U64 w) (hpl : (partH h part).length ≤ 1000000) : VC Try.prog 74 false [hpV h, ptsV p, vi part] (.bool (ptrsR h p part)) := by
  refine vc_of_wp Try.func74 follows (by kernel_rfl) c74 rfl ?_
  simp [-List.all_eq_true, -List.all_eq_false, p74]
  refine callW_of (Part_vc (h := h) (n := part)) (by simp [hpV]) ?_
  have hpt : ([V.sl [], .sl (p.low.map obV), .sl (p.high.map obV), .sl (p.old.map obV), .sl (p.far.map obV)] : List V)[part]? = some (.sl ((p.at part).map obV)) := by
    have : part = 1 ∨ part = 2 ∨ part = 3 ∨ part = 4 := by omega
    rcases this with rfl | rfl | rfl | rfl <;> rfl
  have hlen := hp.len part
  have hob := hp.ob part
  unfold ptrsR
  generalize hL : p.at part = L at *
  simp [-List.all_eq_true, -List.all_eq_false]
  refine wpS_for0 6 L.length (fun i => (L.take i).all (obPtrs h p part) = true) (by simp) (by simp) (by simp) ?_
  intro i hi hall
  have hwi := wrap_i ((i : Int) + 1) (by omega) (by omega)
  by_cases hlt : i < L.length
  · have hx : L[i]? = some L[i] := List.getElem?_eq_getElem hlt
    obtain ⟨⟨⟨a, ha, hfit⟩, hsh⟩, _⟩ := hob _ (List.getElem_mem hlt)
    generalize L[i] = o at *
    obtain ⟨s1, s2, s3, s4⟩ := shapeOk_iff.1 hsh
    obtain ⟨q, hq⟩ := Int.eq_ofNat_of_zero_le s3
    have hwa := wrap_i ((a : Int) + 1) (by omega) (by omega)
    have hwq := wrap_i ((a : Int) + 1 + q) (by omega) (by omega)
    have hobp : obPtrs h p part o = (List.range q).all fun j => ptrOk h p part (a + 1 + j) := by
      unfold obPtrs
      rw [hq, ha]
      rfl
    simp [-List.all_eq_true, -List.all_eq_false, ptsV, hpt, hlt, hx, at_of hx, ha, hwa]
    refine wpS_loopP (fun (j : Nat) => [(9, .v (vi ((a + 1 + j : Nat) : Int)))]) (fun j => j ≤ q ∧ ((List.range j).all fun j => ptrOk h p part (a + 1 + j)) = true) (cnt 9 (a + 1 + q)) 0 (by simp) (by simp) ?_
    rintro j ⟨hj, hal⟩
    by_cases hjq : j < q
    · have hwm := wrap_i (((a + 1 + j : Nat) : Int) + 1) (by omega) (by omega)
      have hlt2 : ((a + 1 + j : Nat) : Int) < (a : Int) + 1 + q := by omega
      obtain ⟨w, hmw, hu⟩ : ∃ w, (partH h part)[a + 1 + j]? = some w ∧ U64 w := ⟨_, List.getElem?_eq_getElem (by omega), hw _ (List.getElem_mem _)⟩
      have hsucc : ((List.range (j + 1)).all fun j => ptrOk h p part (a + 1 + j)) = (((List.range j).all fun j => ptrOk h p part (a + 1 + j)) && ptrOk h p part (a + 1 + j)) := by
        rw [List.range_succ, List.all_append]; simp
      have hex : ptrOk h p part (a + 1 + j) = false → L.all (obPtrs h p part) = false := fun hno => all_no hx (by
        rw [hobp]
        exact all_no (List.getElem?_range hjq) hno)
      have hcnt : ((j + 1 : Nat) : Int) = (j : Int) + 1 := by omega
      obtain ⟨m, hm⟩ : ∃ m, a + 1 + j = m := ⟨_, rfl⟩
      rw [hm] at hwm hlt2 hmw hsucc hex ⊢
      have k1 := goes_vc hh hp (w := w) (one := 1) (two := 2) hu (.inl ⟨rfl, rfl⟩)
      have k2 := goes_vc hh hp (w := w) (one := 3) (two := 4) hu (.inr ⟨rfl, rfl⟩)
      have hpo : ptrOk h p part m = (if 2 < (part : Int) then goesR h p w 3 4 else if (part : Int) = 1 ∧ h.scan ≤ m then goesR h p w 1 2 || goesR h p w 3 4 else goesR h p w 1 2) := by
        unfold ptrOk
        rw [hmw]
        rfl
      generalize goesR h p w 1 2 = b1 at *
      generalize goesR h p w 3 4 = b2 at *
      have hfin : ∀ (P : Prop), ptrOk h p part m = true → ∃ j', (j' ≤ q ∧ ((List.range j').all fun j => ptrOk h p part (a + 1 + j)) = true) ∧ (m : Int) + 1 = ((a + 1 + j' : Nat) : Int) := fun P hok => ⟨j + 1, ⟨by omega, by rw [hsucc, hal, hok]; rfl⟩, by omega⟩
      simp [-List.all_eq_true, -List.all_eq_false, hq, hwa, hwq, hlt2, hmw, at_of hmw]
      refine callW_of k1 (by simp [hpV, ptsV]) ?_
      simp [-List.all_eq_true, -List.all_eq_false, hmw, at_of hmw]
      refine callW_of k2 (by simp [hpV, ptsV]) ?_
      clear hsucc hal hobp
      generalize L.all (obPtrs h p part) = R at hex ⊢
      generalize (fun j => ptrOk h p part (a + 1 + j)) = F at hfin ⊢
      generalize ptrOk h p part m = v at hpo hex hfin
      by_cases g1 : 2 < part
      · have g1' : (2 : Int) < part := by omega
        have hv : v = (b2) := by rw [hpo]; try simp [g1, g1']
        cases b1
        · cases b2
          · try simp at hv
            simp [-List.all_eq_true, -List.all_eq_false, g1, g1', hwm]
            first
            | exact hex hv
            | (obtain ⟨j', h1, h2⟩ := hfin True hv
               exact ⟨j', h1, by omega, by simp [cnt]; omega⟩)
          · try simp at hv
            simp [-List.all_eq_true, -List.all_eq_false, g1, g1', hwm]
            first
            | exact hex hv
            | (obtain ⟨j', h1, h2⟩ := hfin True hv
               exact ⟨j', h1, by omega, by simp [cnt]; omega⟩)
        · cases b2
          · try simp at hv
            simp [-List.all_eq_true, -List.all_eq_false, g1, g1', hwm]
            first
            | exact hex hv
            | (obtain ⟨j', h1, h2⟩ := hfin True hv
               exact ⟨j', h1, by omega, by simp [cnt]; omega⟩)
          · try simp at hv
            simp [-List.all_eq_true, -List.all_eq_false, g1, g1', hwm]
            first
            | exact hex hv
            | (obtain ⟨j', h1, h2⟩ := hfin True hv
               exact ⟨j', h1, by omega, by simp [cnt]; omega⟩)
      · have g1' : ¬ (2 : Int) < part := by omega
        by_cases g2 : part = 1
        · by_cases g3 : h.scan ≤ m
          · subst g2
            have hv : v = (b1 || b2) := by rw [hpo]; try simp [g3]
            cases b1
            · cases b2
              · try simp at hv
                simp [-List.all_eq_true, -List.all_eq_false, g3, hwm]
                first
                | exact hex hv
                | (obtain ⟨j', h1, h2⟩ := hfin True hv
                   exact ⟨j', h1, by omega, by simp [cnt]; omega⟩)
              · try simp at hv
                simp [-List.all_eq_true, -List.all_eq_false, g3, hwm]
                first
                | exact hex hv
                | (obtain ⟨j', h1, h2⟩ := hfin True hv
                   exact ⟨j', h1, by omega, by simp [cnt]; omega⟩)
            · cases b2
              · try simp at hv
                simp [-List.all_eq_true, -List.all_eq_false, g3, hwm]
                first
                | exact hex hv
                | (obtain ⟨j', h1, h2⟩ := hfin True hv
                   exact ⟨j', h1, by omega, by simp [cnt]; omega⟩)
              · try simp at hv
                simp [-List.all_eq_true, -List.all_eq_false, g3, hwm]
                first
                | exact hex hv
                | (obtain ⟨j', h1, h2⟩ := hfin True hv
                   exact ⟨j', h1, by omega, by simp [cnt]; omega⟩)
          · subst g2
            have hv : v = (b1) := by rw [hpo]; try simp [g3]
            cases b1
            · cases b2
              · try simp at hv
                simp [-List.all_eq_true, -List.all_eq_false, g3, hwm]
                first
                | exact hex hv
                | (obtain ⟨j', h1, h2⟩ := hfin True hv
                   exact ⟨j', h1, by omega, by simp [cnt]; omega⟩)
              · try simp at hv
                simp [-List.all_eq_true, -List.all_eq_false, g3, hwm]
                first
                | exact hex hv
                | (obtain ⟨j', h1, h2⟩ := hfin True hv
                   exact ⟨j', h1, by omega, by simp [cnt]; omega⟩)
            · cases b2
              · try simp at hv
                simp [-List.all_eq_true, -List.all_eq_false, g3, hwm]
                first
                | exact hex hv
                | (obtain ⟨j', h1, h2⟩ := hfin True hv
                   exact ⟨j', h1, by omega, by simp [cnt]; omega⟩)
              · try simp at hv
                simp [-List.all_eq_true, -List.all_eq_false, g3, hwm]
                first
                | exact hex hv
                | (obtain ⟨j', h1, h2⟩ := hfin True hv
                   exact ⟨j', h1, by omega, by simp [cnt]; omega⟩)
        · have g2' : ¬ (part : Int) = 1 := by omega
          have hv : v = (b1) := by rw [hpo]; try simp [g1, g1', g2, g2']
          cases b1
          · cases b2
            · try simp at hv
              simp [-List.all_eq_true, -List.all_eq_false, g1, g1', g2, g2', hwm]
              first
              | exact hex hv
              | (obtain ⟨j', h1, h2⟩ := hfin True hv
                 exact ⟨j', h1, by omega, by simp [cnt]; omega⟩)
            · try simp at hv
              simp [-List.all_eq_true, -List.all_eq_false, g1, g1', g2, g2', hwm]
              first
              | exact hex hv
              | (obtain ⟨j', h1, h2⟩ := hfin True hv
                 exact ⟨j', h1, by omega, by simp [cnt]; omega⟩)
          · cases b2
            · try simp at hv
              simp [-List.all_eq_true, -List.all_eq_false, g1, g1', g2, g2', hwm]
              first
              | exact hex hv
              | (obtain ⟨j', h1, h2⟩ := hfin True hv
                 exact ⟨j', h1, by omega, by simp [cnt]; omega⟩)
            · try simp at hv
              simp [-List.all_eq_true, -List.all_eq_false, g1, g1', g2, g2', hwm]
              first
              | exact hex hv
              | (obtain ⟨j', h1, h2⟩ := hfin True hv
                 exact ⟨j', h1, by omega, by simp [cnt]; omega⟩)
    · have : j = q := by omega
      subst this
      have hnl : ¬ (((a + 1 + j : Nat) : Int) < (a : Int) + 1 + j) := by omega
      have hnext : (L.take (i + 1)).all (obPtrs h p part) = true := by rw [all_take hx, hall, hobp, hal]; rfl
      obtain ⟨m, hm⟩ : ∃ m, a + 1 + j = m := ⟨_, rfl⟩
      rw [hm] at hnl ⊢
      simp [-List.all_eq_true, -List.all_eq_false, hq, hwa, hwq, hnl, hwi, hnext, hlt]
  · have : i = L.length := by omega
    subst this
    rw [List.take_length] at hall
    simp [-List.all_eq_true, -List.all_eq_false, ptsV, hpt, hall]
def tgOk (h : Hp) (p : Pts) (o : Ob) : Bool := decide (targR p (startR h 1 o.at_) = 1)
def rightP (h : Hp) (p : Pts) : Bool :=
  (!h.cycle || p.low.all (tgOk h p)) && h.roots.all (fun w => goesR h p w 1 2) && ptrsR h p 1 && ptrsR h p 2 && ptrsR h p 3 && ptrsR h p 4 && decide ((h.low.length : Int) + h.high.length + waitR p ≤ h.cap)
def rightR (h : Hp) : Bool := numR h && match partsR h with
  | none => false
  | some p => rightP h p
theorem partH_ok {h : Hp} (hh : h.ok) (k : Int) : (∀ w ∈ partH h k, U64 w) ∧ (partH h k).length ≤ 1000000 := by
  unfold partH
  split
  · exact ⟨hh.lowW, hh.low⟩
  split
  · exact ⟨hh.highW, hh.high⟩
  split
  · exact ⟨hh.oldW, hh.old⟩
  · exact ⟨hh.farW, hh.far⟩
theorem waitR_le {h : Hp} {p : Pts} (hp : p.ok h) : waitR p ≤ 512 * 1000000 := by
  have h3 := wtL_le (l := p.at 3) fun o ho => (hp.ob 3 o ho).1.2
  have h4 := wtL_le (l := p.at 4) fun o ho => (hp.ob 4 o ho).1.2
  have l3 := hp.len 3
  have l4 := hp.len 4
  simp only [Pts.at3, Pts.at4] at h3 h4 l3 l4
  unfold waitR
  omega
theorem refRight_vc {h : Hp} (hh : h.ok) : VC Try.prog 31 false [hpV h] (.bool (rightR h)) := by
  refine vc_of_wp Try.func31 follows (by kernel_rfl) c31 rfl ?_
  simp [-List.all_eq_true, -List.all_eq_false, p31]
  refine callW_of (numbers_vc hh) (by simp [hpV]) ?_
  cases hn : numR h
  · simp [-List.all_eq_true, -List.all_eq_false, rightR, hn]
  simp [-List.all_eq_true, -List.all_eq_false]
  refine callW_of (parts_vc hh) (by simp [hpV]) ?_
  unfold rightR
  rw [hn]
  cases hp : partsR h with
  | none => simp [-List.all_eq_true, -List.all_eq_false, ptO]
  | some p =>
  have hpo := parts_ok hh hp
  have hl1 := hpo.len 1
  simp only [Pts.at1] at hl1
  simp only [Bool.true_and]
  simp [-List.all_eq_true, -List.all_eq_false, ptO]
  unfold rightP
  have hlow := hh.low
  have hroots := hh.roots
  -- the objects of Low
  refine wpS_for0 7 p.low.length (fun i => 0 < i → h.cycle = true ∧ (p.low.take i).all (tgOk h p) = true) (by simp) (by simp) (by simp) ?_
  intro i hi hinv
  have hwi := wrap_i ((i : Int) + 1) (by omega) (by omega)
  by_cases hgo : i < p.low.length ∧ h.cycle = true
  · obtain ⟨hlt, hc⟩ := hgo
    have hx : p.low[i]? = some p.low[i] := List.getElem?_eq_getElem hlt
    have hall : (p.low.take i).all (tgOk h p) = true := by
      by_cases h0 : 0 < i
      · exact (hinv h0).2
      · have : i = 0 := by omega
        subst this
        simp
    generalize p.low[i] = o at *
    have k1 := start_vc hh (part := 1) (at_ := o.at_)
    have k2 := targets_vc hpo (a := startR h 1 o.at_)
    simp [-List.all_eq_true, -List.all_eq_false, ptsV, idxV, hlt, hx, at_of hx, hc]
    unfold hpV at k1
    rw [hc] at k1
    refine callW_of k1 (by simp) ?_
    simp [-List.all_eq_true, -List.all_eq_false]
    refine callW_of k2 (by simp) ?_
    by_cases ht : targR p (startR h 1 o.at_) = 1
    · have hok : tgOk h p o = true := by simp [tgOk, ht]
      simp [-List.all_eq_true, -List.all_eq_false, ht, hwi, hlt]
      rw [all_take hx, hall, hok]
      rfl
    · have hno : tgOk h p o = false := by simp [tgOk, ht]
      have ht' : ¬ ((targR p (startR h 1 o.at_) : Int) = 1) := by omega
      have hno2 := all_no (q := tgOk h p) hx hno
      simp [-List.all_eq_true, -List.all_eq_false, ht', hno2, hc]
  · have hcyc : (!h.cycle || p.low.all (tgOk h p)) = true := by
      cases hc : h.cycle
      · rfl
      · have hil : i = p.low.length := by
          have : ¬ i < p.low.length := fun h1 => hgo ⟨h1, hc⟩
          omega
        subst hil
        by_cases h0 : 0 < p.low.length
        · have := (hinv h0).2
          rw [List.take_length] at this
          simpa using this
        · have : p.low = [] := by
            cases hpl : p.low with
            | nil => rfl
            | cons a t => rw [hpl] at h0; simp at h0
          rw [this]
          rfl
    rw [hcyc]
    by_cases hlt : i < p.low.length
    case' pos =>
      have hc : h.cycle = false := by
        cases hc : h.cycle
        · rfl
        · exact (hgo ⟨hlt, hc⟩).elim
      simp [-List.all_eq_true, -List.all_eq_false, ptsV, idxV, hlt, hc]
    case' neg => simp [-List.all_eq_true, -List.all_eq_false, ptsV, idxV, hlt]
    all_goals
      refine wpS_for0 10 h.roots.length (fun j => (h.roots.take j).all (fun w => goesR h p w 1 2) = true) (by simp) (by simp) (by simp) ?_
      intro j hj hall
      have hwj := wrap_i ((j : Int) + 1) (by omega) (by omega)
      by_cases hjl : j < h.roots.length
      · have hx : h.roots[j]? = some h.roots[j] := List.getElem?_eq_getElem hjl
        have hu := hh.rootsW _ (List.getElem_mem hjl)
        generalize h.roots[j] = w at *
        have k1 := goes_vc hh hpo (w := w) (one := 1) (two := 2) hu (.inl ⟨rfl, rfl⟩)
        unfold hpV ptsV at k1
        try rw [hc] at k1
        simp [-List.all_eq_true, -List.all_eq_false, hjl, hx, at_of hx]
        refine callW_of k1 (by simp) ?_
        have hsucc := all_take (q := fun w => goesR h p w 1 2) hx
        cases hg : goesR h p w 1 2
        · have := all_no (q := fun w => goesR h p w 1 2) hx hg
          simp [-List.all_eq_true, -List.all_eq_false, this]
        · simp [-List.all_eq_true, -List.all_eq_false, hwj, hjl]
          rw [hsucc, hall, hg]
          rfl
      · have : j = h.roots.length := by omega
        subst this
        rw [List.take_length] at hall
        rw [hall]
        simp [-List.all_eq_true, -List.all_eq_false]
        refine wpS_loopP (fun (k : Nat) => [(13, .v (vi ((k + 1 : Nat) : Int)))]) (fun k => k ≤ 4 ∧ (0 < k → ptrsR h p 1 = true) ∧ (1 < k → ptrsR h p 2 = true) ∧ (2 < k → ptrsR h p 3 = true) ∧ (3 < k → ptrsR h p 4 = true)) (cnt 13 5) 0 (by simp) (by simp) ?_
        rintro k ⟨hk, i1, i2, i3, i4⟩
        have hk' : k = 0 ∨ k = 1 ∨ k = 2 ∨ k = 3 ∨ k = 4 := by omega
        rcases hk' with rfl | rfl | rfl | rfl | rfl
        · have k2 := pointers_vc hh hpo (part := 1) (by omega) (partH_ok hh _).1 (partH_ok hh _).2
          unfold hpV ptsV at k2
          try rw [hc] at k2
          simp [-List.all_eq_true, -List.all_eq_false]
          refine callW_of k2 (by simp) ?_
          cases hg : ptrsR h p 1
          · simp [-List.all_eq_true, -List.all_eq_false, hg]
          · simp [-List.all_eq_true, -List.all_eq_false, hg, wrap_i]
            exact ⟨1, by simp [hg], by simp, by simp [cnt]⟩
        · have k2 := pointers_vc hh hpo (part := 2) (by omega) (partH_ok hh _).1 (partH_ok hh _).2
          unfold hpV ptsV at k2
          try rw [hc] at k2
          simp [-List.all_eq_true, -List.all_eq_false]
          refine callW_of k2 (by simp) ?_
          cases hg : ptrsR h p 2
          · simp [-List.all_eq_true, -List.all_eq_false, hg, i1 (by omega)]
          · simp [-List.all_eq_true, -List.all_eq_false, hg, wrap_i]
            exact ⟨2, by simp [hg, i1 (by omega)], by simp, by simp [cnt]⟩
        · have k2 := pointers_vc hh hpo (part := 3) (by omega) (partH_ok hh _).1 (partH_ok hh _).2
          unfold hpV ptsV at k2
          try rw [hc] at k2
          simp [-List.all_eq_true, -List.all_eq_false]
          refine callW_of k2 (by simp) ?_
          cases hg : ptrsR h p 3
          · simp [-List.all_eq_true, -List.all_eq_false, hg, i1 (by omega), i2 (by omega)]
          · simp [-List.all_eq_true, -List.all_eq_false, hg, wrap_i]
            exact ⟨3, by simp [hg, i1 (by omega), i2 (by omega)], by simp, by simp [cnt]⟩
        · have k2 := pointers_vc hh hpo (part := 4) (by omega) (partH_ok hh _).1 (partH_ok hh _).2
          unfold hpV ptsV at k2
          try rw [hc] at k2
          simp [-List.all_eq_true, -List.all_eq_false]
          refine callW_of k2 (by simp) ?_
          cases hg : ptrsR h p 4
          · simp [-List.all_eq_true, -List.all_eq_false, hg, i1 (by omega), i2 (by omega), i3 (by omega)]
          · simp [-List.all_eq_true, -List.all_eq_false, hg, wrap_i]
            exact ⟨4, by simp [hg, i1 (by omega), i2 (by omega), i3 (by omega)], by simp, by simp [cnt]⟩
        · have k3 := waiting_vc hpo
          have hwl := waitR_le hpo
          unfold ptsV at k3
          simp [-List.all_eq_true, -List.all_eq_false, i1 (by omega), i2 (by omega), i3 (by omega), i4 (by omega)]
          refine callW_of k3 (by simp) ?_
          have hhl := hh.high
          have w1 := wrap_i ((h.low.length : Int) + h.high.length) (by omega) (by omega)
          have w2 := wrap_i ((h.low.length : Int) + h.high.length + waitR p) (by omega) (by omega)
          simp [-List.all_eq_true, -List.all_eq_false, w1, w2]
theorem right_parts {h : Hp} (hr : rightR h = true) : ∃ p, partsR h = some p ∧ rightP h p = true ∧ numR h = true := by
  unfold rightR at hr
  simp only [Bool.and_eq_true] at hr
  cases hp : partsR h with
  | none => rw [hp] at hr; simp at hr
  | some p => rw [hp] at hr; exact ⟨p, rfl, hr.2, hr.1⟩
def objsR (h : Hp) (part : Int) : List Ob × Int := if rightR h = true ∧ 1 ≤ part ∧ part ≤ 4 then (((partsR h).getD default).at part, 0) else ([], 1)
theorem refObjects_vc {h : Hp} (hh : h.ok) {part : Int} : VC Try.prog 35 false [hpV h, vi part] (.tup [.sl ((objsR h part).1.map obV), vi (objsR h part).2]) := by
  refine vc_of_wp Try.func35 follows (by kernel_rfl) c35 rfl ?_
  simp [p35]
  refine callW_of (refRight_vc hh) (by simp [hpV]) ?_
  cases hr : rightR h
  · simp [objsR, hr]
  by_cases h1 : part < 1
  · simp [objsR, hr, h1, show ¬ 1 ≤ part by omega]
  by_cases h2 : 4 < part
  · simp [objsR, hr, h1, h2, show ¬ part ≤ 4 by omega]
  simp [h1, h2]
  refine callW_of (parts_vc hh) (by simp [hpV]) ?_
  obtain ⟨p, hp, _, _⟩ := right_parts hr
  have hk : part = 1 ∨ part = 2 ∨ part = 3 ∨ part = 4 := by omega
  rcases hk with rfl | rfl | rfl | rfl <;> simp [objsR, hr, hp, ptO, ptsV, idxV]
def waitH (h : Hp) : Int := if rightR h then waitR ((partsR h).getD default) else 0
theorem refWaiting_vc {h : Hp} (hh : h.ok) : VC Try.prog 33 false [hpV h] (vi (waitH h)) := by
  refine vc_of_wp Try.func33 follows (by kernel_rfl) c33 rfl ?_
  simp [p33]
  refine callW_of (refRight_vc hh) (by simp [hpV]) ?_
  cases hr : rightR h
  · simp [waitH, hr]
  obtain ⟨p, hp, _, _⟩ := right_parts hr
  simp
  refine callW_of (parts_vc hh) (by simp [hpV]) ?_
  simp [hp, ptO]
  refine callW_of (waiting_vc (parts_ok hh hp)) (by simp [ptsV]) ?_
  simp [waitH, hr, hp]
theorem objsR_in {h : Hp} (hh : h.ok) (part : Int) : ∀ o ∈ (objsR h part).1, ObIn (partH h part).length o ∧ U64 o.target := by
  unfold objsR
  split
  · rename_i hr
    obtain ⟨p, hp, _, _⟩ := right_parts hr.1
    rw [hp]
    exact (parts_ok hh hp).ob part
  · simp
theorem objsR_len {h : Hp} (hh : h.ok) (part : Int) : (objsR h part).1.length ≤ 1000000 := by
  unfold objsR
  split
  · rename_i hr
    obtain ⟨p, hp, _, _⟩ := right_parts hr.1
    rw [hp]
    exact (parts_ok hh hp).len part
  · simp
end Vm
