/-
  Objects among words (the document's answer of layer 6): what it computes.
-/
import Derived.Test.YtfplljcicihneaaBc
import Derived.Test.YtfplljcicihneaaHf
namespace Vm
open Go Go.Proofs
set_option linter.unusedSimpArgs false
set_option linter.unusedVariables false
set_option maxRecDepth 100000
set_option maxHeartbeats 1000000
structure Ob where
  at_ : Int
  size : Int
  ptrs : Int
  gone : Bool
  target : Int
  deriving DecidableEq, Inhabited
def obV (o : Ob) : V := .agg [vi o.at_, vi o.size, vi o.ptrs, .bool o.gone, vu o.target]
@[simp] theorem szV_obV (o : Ob) : szV (obV o) 5 = some (obV o) := rfl
@[simp] theorem fldsV_obV (o : Ob) : fldsV (obV o) 0 5 = some (obV o) := rfl
@[simp] theorem obV_cells (o : Ob) : (obV o).cells = [vi o.at_, vi o.size, vi o.ptrs, .bool o.gone, vu o.target] := rfl
@[simp] theorem fldV_obV0 (o : Ob) : fldV (obV o) 0 = some (vi o.at_) := rfl
@[simp] theorem fldV_obV1 (o : Ob) : fldV (obV o) 1 = some (vi o.size) := rfl
@[simp] theorem fldV_obV2 (o : Ob) : fldV (obV o) 2 = some (vi o.ptrs) := rfl
@[simp] theorem fldV_obV3 (o : Ob) : fldV (obV o) 3 = some (.bool o.gone) := rfl
@[simp] theorem fldV_obV4 (o : Ob) : fldV (obV o) 4 = some (vu o.target) := rfl
@[simp] theorem fldsV_obV12 (o : Ob) : fldsV (obV o) 1 2 = some (shV o.size o.ptrs) := rfl
@[simp] theorem sizeOk_obV (l : List Ob) : sizeOk 5 (l.map obV) = true := sizeOk_map fun _ => rfl
def shP (s : Int × Int) : V := shV s.1 s.2
@[simp] theorem shP_cells (s : Int × Int) : (shP s).cells = [vi s.1, vi s.2] := rfl
@[simp] theorem szV_shP (s : Int × Int) : szV (shP s) 2 = some (shP s) := rfl
@[simp] theorem fldsV_shP (s : Int × Int) : fldsV (shP s) 0 2 = some (shP s) := rfl
@[simp] theorem fldV_shP0 (s : Int × Int) : fldV (shP s) 0 = some (vi s.1) := rfl
@[simp] theorem fldV_shP1 (s : Int × Int) : fldV (shP s) 1 = some (vi s.2) := rfl
@[simp] theorem sizeOk_shP (l : List (Int × Int)) : sizeOk 2 (l.map shP) = true := sizeOk_map fun _ => rfl
/-- may a word be a pointer's? -/
def isPtr (w : Int) : Bool := decide (w = 0) || decide ((adr w).2 = 0)
theorem refPointer_vc {w : Int} (hw : U64 w) : VC Try.prog 126 false [vu w] (.bool (isPtr w)) := by
  refine vc_of_wp Try.func126 follows (by kernel_rfl) c126 rfl ?_
  simp [p126]
  refine callW_of (refAdr_vc hw) (by simp) ?_
  by_cases h : w = 0 <;> simp [isPtr, h]
/-- an object's slots are as they may be -/
def slotsOk (l : List Int) (gone : Bool) (ptrs : Int) (i : Nat) : Bool :=
  match l with
  | [] => true
  | w :: l => (!gone || decide (w = 0)) && (!decide ((i : Int) < ptrs) || isPtr w) && slotsOk l gone ptrs (i + 1)
theorem slotsOk_drop {l : List Int} {gone : Bool} {ptrs : Int} {i : Nat} {w : Int} (h : l[i]? = some w) : slotsOk (l.drop i) gone ptrs i = ((!gone || decide (w = 0)) && (!decide ((i : Int) < ptrs) || isPtr w) && slotsOk (l.drop (i + 1)) gone ptrs (i + 1)) := by
  obtain ⟨h1, h2⟩ := List.getElem?_eq_some_iff.1 h
  rw [List.drop_eq_getElem_cons h1, h2]
  rfl
theorem refSlots_vc {l : List Int} {o : Ob} (hl : l.length ≤ 1000000) (hw : ∀ w ∈ l, U64 w) : VC Try.prog 123 false [.sl (l.map vu), obV o] (vi (if slotsOk l o.gone o.ptrs 0 then 0 else 3)) := by
  refine vc_of_wp Try.func123 follows (by kernel_rfl) c123 rfl ?_
  simp [p123]
  refine wpS_for0 4 l.length (fun i => slotsOk l o.gone o.ptrs 0 = slotsOk (l.drop i) o.gone o.ptrs i) (by simp) (by simp) (by simp) ?_
  intro i hi hinv
  have hwi := wrap_i ((i : Int) + 1) (by omega) (by omega)
  by_cases h : i < l.length
  · have hx : l[i]? = some l[i] := List.getElem?_eq_getElem h
    have hu := hw _ (List.getElem_mem h)
    rw [slotsOk_drop hx] at hinv
    generalize l[i] = w at *
    rw [hinv]
    by_cases g1 : o.gone = true ∧ w ≠ 0
    · simp [h, hx, at_of hx, g1.1, g1.2]
    · have g1' : (!o.gone || decide (w = 0)) = true := by
        cases hg : o.gone
        · rfl
        · simp [hg] at g1
          simp [g1]
      have hp := refPointer_vc hu
      by_cases g2 : (i : Int) < o.ptrs
      · cases hg : o.gone
        · cases hip : isPtr w
          all_goals
            rw [hip] at hp
            simp [h, hx, at_of hx, hg, g2]
            refine callW_of hp (by simp) ?_
            simp [hwi, hg, h]
        · rw [hg] at g1'
          simp at g1'
          subst g1'
          have hp0 : isPtr 0 = true := rfl
          rw [hp0] at hp
          simp [h, hx, at_of hx, hg, g2]
          refine callW_of hp (by simp) ?_
          simp [hwi, hg, h, hp0]
      · cases hg : o.gone
        all_goals
          rw [hg] at g1'
          simp at g1'
          simp [h, hx, at_of hx, hg, g1', g2, hwi]
  · have : i = l.length := by omega
    subst this
    rw [hinv]
    simp [slotsOk]
/-- the object that begins with a word; shapes of those that are gone: from tk on -/
def objR (shs : List (Int × Int)) (old : Bool) (at_ tk : Nat) (w : Int) : Option (Ob × Nat) :=
  if old = true ∧ (adr w).2 = 0 then
    match shs[tk]? with
    | none => none
    | some s => if shapeOk s.1 s.2 then some (⟨at_, s.1, s.2, true, (adr w).1⟩, tk + 1) else none
  else if (unpk w).2.2 = 0 then some (⟨at_, (unpk w).1, (unpk w).2.1, false, 0⟩, tk) else none
theorem unpk_ok {w : Int} (h : (unpk w).2.2 = 0) : shapeOk (unpk w).1 (unpk w).2.1 = true := by
  unfold unpk at *
  split
  · rename_i h1; exact h1.2
  · rename_i h1; rw [if_neg h1] at h; simp at h
theorem objR_shape {shs : List (Int × Int)} {old : Bool} {at_ tk : Nat} {w : Int} {o : Ob} {t : Nat} (h : objR shs old at_ tk w = some (o, t)) : shapeOk o.size o.ptrs = true ∧ o.at_ = at_ := by
  unfold objR at h
  split at h
  · split at h
    · cases h
    · split at h
      · rename_i s _ hs
        cases h
        exact ⟨hs, rfl⟩
      · cases h
  · split at h
    · rename_i h1
      cases h
      exact ⟨unpk_ok h1, rfl⟩
    · cases h
def walkR (ws : List Int) (shs : List (Int × Int)) (old : Bool) : Nat → Nat → Nat → List Ob → List Ob × Int
  | 0, _, _, _ => ([], 3)
  | f + 1, at_, tk, acc =>
    match ws[at_]? with
    | none => if tk < shs.length then ([], 3) else (acc, 0)
    | some w => match objR shs old at_ tk w with
      | none => ([], 3)
      | some (o, t) =>
        if (ws.length : Int) < at_ + 1 + o.size then ([], 2)
        else if slotsOk ((ws.drop (at_ + 1)).take o.size.toNat) o.gone o.ptrs 0 = false then ([], 3)
        else walkR ws shs old f (at_ + 1 + o.size.toNat) t (acc ++ [o])
def walkW (ws : List Int) (shs : List (Int × Int)) (old : Bool) : List Ob × Int := walkR ws shs old (ws.length + 1) 0 0 []
theorem refwalk_vc {ws : List Int} {shs : List (Int × Int)} {old : Bool} (hl : ws.length ≤ 1000000) (hs : shs.length ≤ 1000000) (hw : ∀ w ∈ ws, U64 w) :
    VC Try.prog 111 false [.sl (ws.map vu), .sl (shs.map shP), .bool old] (.tup [.sl ((walkW ws shs old).1.map obV), vi (walkW ws shs old).2]) := by
  refine vc_of_wp Try.func111 follows (by kernel_rfl) c111 rfl ?_
  simp [p111]
  refine wpS_loopP (fun (p : Nat × Nat × List Ob) => [(5, .v (.sl (p.2.2.map obV))), (6, .v (vi p.2.1)), (7, .v (vi p.1))])
    (fun p => p.1 ≤ ws.length ∧ p.2.1 ≤ shs.length ∧ p.2.2.length ≤ p.1 ∧ ∃ f, ws.length < f + p.1 ∧ walkW ws shs old = walkR ws shs old f p.1 p.2.1 p.2.2)
    (cnt 7 ws.length) (0, 0, []) (by simp) ⟨by simp, by simp, by simp, ws.length + 1, by simp, rfl⟩ ?_
  rintro ⟨at_, tk, acc⟩ ⟨ha, ht, hacc, f, hf, hR⟩
  simp only at ha ht hacc hf hR
  cases f with
  | zero => omega
  | succ f =>
  have hw1 := wrap_i ((at_ : Int) + 1) (by omega) (by omega)
  by_cases h : at_ < ws.length
  · have hx : ws[at_]? = some ws[at_] := List.getElem?_eq_getElem h
    have hu := hw _ (List.getElem_mem h)
    generalize ws[at_] = w at *
    simp only [walkR, hx] at hR
    have hadr := refAdr_vc hu
    have hunp := refUnpk_vc hu
    simp [h, hx, at_of hx]
    refine callW_of hadr (by simp) ?_
    unfold objR at hR
    by_cases hA : old = true ∧ (adr w).2 = 0
    · rw [if_pos hA] at hR
      obtain ⟨hA1, hA2⟩ := hA
      subst hA1
      simp [hA2]
      by_cases htk : tk < shs.length
      · have hs0 : shs[tk]? = some shs[tk] := List.getElem?_eq_getElem htk
        generalize shs[tk] = s at *
        have htn : ¬ ((tk : Int) = (shs.length : Int)) := by omega
        simp only [hs0] at hR
        have hr5 := refRight5_vc (s := s.1) (p := s.2)
        simp [htn, hs0]
        refine callW_of hr5 (by simp [shP]) ?_
        cases hshape : shapeOk s.1 s.2
        · rw [hshape] at hR
          simp at hR
          rw [hR]
          simp
        · rw [hshape] at hR
          simp at hR
          have hwt := wrap_i ((tk : Int) + 1) (by omega) (by omega)
          have hsh := shapeOk_iff.1 hshape
          obtain ⟨z, hz⟩ := Int.eq_ofNat_of_zero_le hsh.1
          have hz2 := hsh.2.1
          have w2 := wrap_i ((at_ : Int) + 1 + z) (by omega) (by omega)
          obtain ⟨m1, hm1⟩ : ∃ m : Nat, at_ + 1 = m := ⟨_, rfl⟩
          obtain ⟨m2, hm2⟩ : ∃ m : Nat, at_ + 1 + z = m := ⟨_, rfl⟩
          have hi1 : (at_ : Int) + 1 = m1 := by omega
          have hi2 : (m1 : Int) + z = m2 := by omega
          rw [hi1] at hw1
          rw [hi1, hi2] at w2
          rw [hi1, hz, hi2, Int.toNat_natCast, hm1, show m1 + z = m2 by omega] at hR
          by_cases hbig : (ws.length : Int) < m2
          · rw [if_pos hbig] at hR
            rw [hR]
            simp [hs0, hz, hi1, hw1, hi2, w2, hbig]
          · rw [if_neg hbig] at hR
            have hsl : ((ws.map vu).take m2).drop m1 = ((ws.drop m1).take z).map vu := by
              rw [← List.map_take, ← List.map_drop, List.drop_take, show m2 - m1 = z by omega]
            have hslots := refSlots_vc (l := (ws.drop m1).take z) (o := ⟨at_, z, s.2, true, (adr w).1⟩) (by simp; omega) (fun q hq => hw q (List.mem_of_mem_drop (List.mem_of_mem_take hq)))
            have hle : m1 ≤ m2 := by omega
            have hle2 : m2 ≤ ws.length := by omega
            have hso : sizeOk 1 (ws.map vu) = true := sizeOk_vi _
            have hlim : acc.length + 1 ≤ lim := by simp [lim]; omega
            simp [hs0, hz, hi1, hw1, hi2, w2, hbig, hle, hle2, hso, hsl]
            rw [← List.map_drop, ← List.map_take]
            refine callW_of hslots (by simp) ?_
            cases hok : slotsOk ((ws.drop m1).take z) true s.2 0
            · rw [hok] at hR
              simp at hR
              rw [hR]
              simp
            · rw [hok] at hR
              simp at hR
              simp [hwt, hlim, hi1, hw1, hi2, w2, hz]
              exact ⟨m2, tk + 1, acc ++ [⟨at_, z, s.2, true, (adr w).1⟩], ⟨by omega, by omega, by simp; omega, f, by omega, hR⟩, by simp [obV], by simp [cnt]; omega⟩
      · have htn : tk = shs.length := by omega
        have hs0 : shs[tk]? = none := List.getElem?_eq_none (by omega)
        simp only [hs0] at hR
        rw [hR]
        simp [htn]
    · rw [if_neg hA] at hR
      by_cases hun : (unpk w).2.2 = 0
      · rw [if_pos hun] at hR
        have hshape := unpk_ok hun
        simp only at hR
        by_cases g1 : old = true
        case' pos =>
          have g2 : ¬ (adr w).2 = 0 := fun g2 => hA ⟨g1, g2⟩
          subst g1
          simp [g2, hx]
        case' neg =>
          have g1' : old = false := by simpa using g1
          subst g1'
          simp [hx]
        all_goals
          refine callW_of hunp (by simp) ?_
          have hsh := shapeOk_iff.1 hshape
          obtain ⟨z, hz⟩ := Int.eq_ofNat_of_zero_le hsh.1
          have hz2 := hsh.2.1
          have w2 := wrap_i ((at_ : Int) + 1 + z) (by omega) (by omega)
          obtain ⟨m1, hm1⟩ : ∃ m : Nat, at_ + 1 = m := ⟨_, rfl⟩
          obtain ⟨m2, hm2⟩ : ∃ m : Nat, at_ + 1 + z = m := ⟨_, rfl⟩
          have hi1 : (at_ : Int) + 1 = m1 := by omega
          have hi2 : (m1 : Int) + z = m2 := by omega
          rw [hi1] at hw1
          rw [hi1, hi2] at w2
          rw [hi1, hz, hi2, Int.toNat_natCast, hm1, show m1 + z = m2 by omega] at hR
          by_cases hbig : (ws.length : Int) < m2
          · rw [if_pos hbig] at hR
            rw [hR]
            simp [hun, hz, hi1, hw1, hi2, w2, hbig]
          · rw [if_neg hbig] at hR
            have hsl : ((ws.map vu).take m2).drop m1 = ((ws.drop m1).take z).map vu := by
              rw [← List.map_take, ← List.map_drop, List.drop_take, show m2 - m1 = z by omega]
            have hslots := refSlots_vc (l := (ws.drop m1).take z) (o := ⟨at_, z, (unpk w).2.1, false, 0⟩) (by simp; omega) (fun q hq => hw q (List.mem_of_mem_drop (List.mem_of_mem_take hq)))
            have hle : m1 ≤ m2 := by omega
            have hle2 : m2 ≤ ws.length := by omega
            have hso : sizeOk 1 (ws.map vu) = true := sizeOk_vi _
            have hlim : acc.length + 1 ≤ lim := by simp [lim]; omega
            simp [hun, hz, hi1, hw1, hi2, w2, hbig, hle, hle2, hso, hsl]
            rw [← List.map_drop, ← List.map_take]
            refine callW_of hslots (by simp) ?_
            cases hok : slotsOk ((ws.drop m1).take z) false (unpk w).2.1 0
            · rw [hok] at hR
              simp at hR
              rw [hR]
              simp
            · rw [hok] at hR
              simp at hR
              simp [hlim, hi1, hw1, hi2, w2, hz]
              exact ⟨m2, tk, acc ++ [⟨at_, z, (unpk w).2.1, false, 0⟩], ⟨by omega, by omega, by simp; omega, f, by omega, hR⟩, by simp [obV], by simp [cnt]; omega⟩
      · rw [if_neg hun] at hR
        simp only at hR
        have hu3 : (unpk w).2.2 = 3 := by
          unfold unpk at *
          split
          · rename_i h1; rw [if_pos h1] at hun; simp at hun
          · rfl
        rw [hR]
        by_cases g1 : old = true
        · have g2 : ¬ (adr w).2 = 0 := fun g2 => hA ⟨g1, g2⟩
          subst g1
          simp [g2, hx]
          refine callW_of hunp (by simp) ?_
          simp [hu3]
        · have g1' : old = false := by simpa using g1
          subst g1'
          simp [hx]
          refine callW_of hunp (by simp) ?_
          simp [hu3]
  · have hx : ws[at_]? = none := List.getElem?_eq_none (by omega)
    simp only [walkR, hx] at hR
    rw [hR]
    simp [h]
    by_cases h2 : tk < shs.length
    · simp [h2]
    · simp [h2]
def ObIn (n : Nat) (o : Ob) : Prop := (∃ a : Nat, o.at_ = a ∧ (a : Int) + 1 + o.size ≤ n) ∧ shapeOk o.size o.ptrs = true
theorem objR_target {shs : List (Int × Int)} {old : Bool} {at_ tk : Nat} {w : Int} {o : Ob} {t : Nat} (hw : U64 w) (h : objR shs old at_ tk w = some (o, t)) : U64 o.target := by
  unfold objR at h
  split at h
  · split at h
    · cases h
    · split at h
      · cases h
        obtain ⟨h1, h2⟩ := hw
        show 0 ≤ (adr w).1 ∧ (adr w).1 < 18446744073709551616
        unfold adr
        split
        · simp
        split
        · simp
        · simp only; omega
      · cases h
  · split at h
    · cases h
      show (0 : Int) ≤ 0 ∧ (0 : Int) < 18446744073709551616
      omega
    · cases h
theorem walkR_in {ws : List Int} {shs : List (Int × Int)} {old : Bool} (hw : ∀ w ∈ ws, U64 w) : ∀ (f at_ tk : Nat) (acc : List Ob), (∀ o ∈ acc, ObIn ws.length o ∧ U64 o.target) → ∀ o ∈ (walkR ws shs old f at_ tk acc).1, ObIn ws.length o ∧ U64 o.target
  | 0, _, _, _, _ => by simp [walkR]
  | f + 1, at_, tk, acc, hacc => by
    simp only [walkR]
    split
    · split
      · simp
      · exact hacc
    · rename_i w hx
      split
      · simp
      · rename_i o t ho
        split
        · simp
        · rename_i hb
          split
          · simp
          · refine walkR_in hw f _ _ _ fun o' ho' => ?_
            rcases List.mem_append.1 ho' with h | h
            · exact hacc o' h
            · simp only [List.mem_singleton] at h
              subst h
              obtain ⟨h1, h2⟩ := objR_shape ho
              exact ⟨⟨⟨at_, h2, by omega⟩, h1⟩, objR_target (hw w (List.mem_of_getElem? hx)) ho⟩
theorem walkW_in {ws : List Int} {shs : List (Int × Int)} {old : Bool} (hw : ∀ w ∈ ws, U64 w) : ∀ o ∈ (walkW ws shs old).1, ObIn ws.length o ∧ U64 o.target := walkR_in hw _ _ _ _ (by simp)
theorem walkR_len {ws : List Int} {shs : List (Int × Int)} {old : Bool} : ∀ (f at_ tk : Nat) (acc : List Ob), at_ ≤ ws.length → acc.length ≤ at_ → (walkR ws shs old f at_ tk acc).1.length ≤ ws.length
  | 0, _, _, _, _, _ => by simp [walkR]
  | f + 1, at_, tk, acc, ha, hacc => by
    simp only [walkR]
    split
    · split
      · simp
      · simp only; omega
    · split
      · simp
      · rename_i o t ho
        split
        · simp
        · rename_i hb
          split
          · simp
          · have hsh := shapeOk_iff.1 (objR_shape ho).1
            refine walkR_len f _ _ _ (by omega) (by simp; omega)
theorem walkW_len {ws : List Int} {shs : List (Int × Int)} {old : Bool} : (walkW ws shs old).1.length ≤ ws.length := walkR_len _ _ _ _ (by omega) (by simp)
theorem refWalk_vc {ws : List Int} (hl : ws.length ≤ 1000000) (hw : ∀ w ∈ ws, U64 w) : VC Try.prog 95 false [.sl (ws.map vu)] (.tup [.sl ((walkW ws [] false).1.map obV), vi (walkW ws [] false).2]) := by
  refine vc_of_wp Try.func95 follows (by kernel_rfl) c95 rfl ?_
  simp [p95]
  refine callW_of (refwalk_vc (shs := []) (old := false) hl (by simp) hw) (by simp) ?_
  simp
theorem refWalkOld_vc {ws : List Int} {shs : List (Int × Int)} (hl : ws.length ≤ 1000000) (hs : shs.length ≤ 1000000) (hw : ∀ w ∈ ws, U64 w) : VC Try.prog 97 false [.sl (ws.map vu), .sl (shs.map shP)] (.tup [.sl ((walkW ws shs true).1.map obV), vi (walkW ws shs true).2]) := by
  refine vc_of_wp Try.func97 follows (by kernel_rfl) c97 rfl ?_
  simp [p97]
  refine callW_of (refwalk_vc (old := true) hl hs hw) (by simp) ?_
  simp
end Vm
