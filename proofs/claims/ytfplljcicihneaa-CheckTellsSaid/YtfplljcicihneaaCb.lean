/-
  A heap's objects (the document's answer of layer 11): what it computes.
-/
import Derived.Test.YtfplljcicihneaaCa
import Derived.Test.YtfplljcicihneaaHg
namespace Vm
open Go Go.Proofs
set_option linter.unusedSimpArgs false
set_option linter.unusedVariables false
set_option maxRecDepth 100000
set_option maxHeartbeats 1000000
def startR (h : Hp) (part at_ : Int) : Int := (addrL (layH h) part at_).1
theorem start_vc {h : Hp} (hh : h.ok) {part at_ : Int} : VC Try.prog 72 false [hpV h, vi part, vi at_] (vu (startR h part at_)) := by
  refine vc_of_wp Try.func72 follows (by kernel_rfl) c72 rfl ?_
  simp [p72]
  refine callW_of (refLayout_vc (h := h)) (by simp) ?_
  simp
  refine callW_of (refAddrL_vc hh.lay (part := part) (at_ := at_)) (by simp) ?_
  simp [startR]
def atR (h : Hp) (part : Int) (l : List Ob) (a : Int) : Option Ob := l.find? fun o => startR h part o.at_ == a
def obO : Option Ob → V
  | some o => .tup [obV o, .bool true]
  | none => .tup [obV ⟨0, 0, 0, false, 0⟩, .bool false]
theorem find_drop {l : List Ob} {p : Ob → Bool} {i : Nat} {o : Ob} (h : l[i]? = some o) (hp : (l.take i).find? p = none) : (l.take (i + 1)).find? p = (if p o then some o else none) ∧ (p o = true → l.find? p = some o) := by
  have h1 : l.take (i + 1) = l.take i ++ [o] := by rw [List.take_add_one, h]; rfl
  have h2 : l = l.take (i + 1) ++ l.drop (i + 1) := (List.take_append_drop _ _).symm
  constructor
  · rw [h1, List.find?_append, hp]
    cases hpo : p o <;> simp [hpo]
  · intro hpo
    rw [h2, h1, List.find?_append, List.find?_append, hp]
    simp [hpo]
theorem at_vc {h : Hp} (hh : h.ok) {part a : Int} {l : List Ob} (hl : l.length ≤ 1000000) : VC Try.prog 98 false [hpV h, vi part, .sl (l.map obV), vu a] (obO (atR h part l a)) := by
  refine vc_of_wp Try.func98 follows (by kernel_rfl) c98 rfl ?_
  simp [p98]
  refine wpS_for0 7 l.length (fun i => (l.take i).find? (fun o => startR h part o.at_ == a) = none) (by simp) (by simp) (by simp) ?_
  intro i hi hinv
  have hw := wrap_i ((i : Int) + 1) (by omega) (by omega)
  by_cases hlt : i < l.length
  · have hx : l[i]? = some l[i] := List.getElem?_eq_getElem hlt
    generalize l[i] = o at *
    obtain ⟨f1, f2⟩ := find_drop hx hinv
    simp [hlt, hx, at_of hx]
    refine callW_of (start_vc hh (part := part) (at_ := o.at_)) (by simp [hpV]) ?_
    by_cases he : startR h part o.at_ = a
    · have := f2 (by simpa using he)
      simp [he, atR, this, obO, hx, at_of hx]
      simp [obV]
    · have : (startR h part o.at_ == a) = false := by simpa using he
      rw [this] at f1
      simp at f1
      simp [he, hw, hlt]
      simpa using f1
  · have : i = l.length := by omega
    subst this
    rw [List.take_length] at hinv
    simp [atR, hinv, obO]
    simp [obV]
theorem atR_in {h : Hp} {part a : Int} {l : List Ob} {o : Ob} (ho : atR h part l a = some o) : o ∈ l := List.mem_of_find?_eq_some ho
def shapesR (h : Hp) (ws : List Int) (low : List Ob) : Nat → Nat → List (Int × Int) → Option (List (Int × Int))
  | 0, _, _ => none
  | f + 1, i, acc =>
    match ws[i]? with
    | none => some acc
    | some w => if (adr w).2 = 0 then (match atR h 1 low (adr w).1 with | none => none | some o => shapesR h ws low f (i + 1 + o.size.toNat) (acc ++ [(o.size, o.ptrs)]))
      else if (unpk w).2.2 = 0 then shapesR h ws low f (i + 1 + (unpk w).1.toNat) acc else none
def shapesW (h : Hp) (ws : List Int) (low : List Ob) : Option (List (Int × Int)) := shapesR h ws low (ws.length + 1) 0 []
def shO : Option (List (Int × Int)) → V
  | some l => .tup [.sl (l.map shP), .bool true]
  | none => .tup [.sl [], .bool false]
theorem shapes_vc {h : Hp} (hh : h.ok) {ws : List Int} {low : List Ob} (hl : ws.length ≤ 1000000) (hw : ∀ w ∈ ws, U64 w) (hll : low.length ≤ 1000000) (hls : ∀ o ∈ low, shapeOk o.size o.ptrs = true) :
    VC Try.prog 96 false [hpV h, .sl (ws.map vu), .sl (low.map obV)] (shO (shapesW h ws low)) := by
  refine vc_of_wp Try.func96 follows (by kernel_rfl) c96 rfl ?_
  simp [p96]
  refine wpS_loopP (fun (p : Nat × List (Int × Int)) => [(6, .v (.sl (p.2.map shP))), (7, .v (vi p.1))])
    (fun p => p.1 ≤ ws.length + 256 ∧ p.2.length ≤ p.1 ∧ ∃ f, ws.length < f + p.1 ∧ 0 < f ∧ shapesW h ws low = shapesR h ws low f p.1 p.2) (cnt 7 ws.length) (0, []) (by simp) ⟨by simp, by simp, ws.length + 1, by simp, by omega, rfl⟩ ?_
  rintro ⟨i, acc⟩ ⟨hi, hacc, f, hf, hf0, hR⟩
  simp only at hi hacc hf hR
  cases f with
  | zero => omega
  | succ f =>
  by_cases hlt : i < ws.length
  · have hx : ws[i]? = some ws[i] := List.getElem?_eq_getElem hlt
    have hu := hw _ (List.getElem_mem hlt)
    generalize ws[i] = w at *
    simp only [shapesR, hx] at hR
    have hw1 := wrap_i ((i : Int) + 1) (by omega) (by omega)
    have hlim : acc.length + 1 ≤ lim := by simp [lim]; omega
    simp [hlt, hx, at_of hx]
    refine callW_of (refUnpk_vc hu) (by simp) ?_
    simp [hx, at_of hx]
    refine callW_of (refAdr_vc hu) (by simp) ?_
    by_cases ha : (adr w).2 = 0
    · rw [if_pos ha] at hR
      simp [ha]
      refine callW_of (at_vc hh (part := 1) (a := (adr w).1) hll) (by simp [hpV]) ?_
      cases hat : atR h 1 low (adr w).1 with
      | none =>
        rw [hat] at hR
        simp only at hR
        rw [hR]
        simp [obO, shO]
      | some o =>
        rw [hat] at hR
        simp only at hR
        have hsh := shapeOk_iff.1 (hls o (atR_in hat))
        obtain ⟨z, hz⟩ := Int.eq_ofNat_of_zero_le hsh.1
        have hw2 := wrap_i ((i : Int) + 1 + z) (by omega) (by omega)
        rw [hz, Int.toNat_natCast] at hR
        simp [obO, hlim, hz, hw1, hw2]
        refine ⟨i + 1 + z, acc ++ [((z : Int), o.ptrs)], ⟨by omega, by simp; omega, f, by omega, ?_, hR⟩, ⟨by simp [shP], by omega⟩, by simp [cnt]; omega⟩
        omega
    · rw [if_neg ha] at hR
      by_cases hun : (unpk w).2.2 = 0
      · rw [if_pos hun] at hR
        have hsh := shapeOk_iff.1 (unpk_ok hun)
        obtain ⟨z, hz⟩ := Int.eq_ofNat_of_zero_le hsh.1
        have hw2 := wrap_i ((i : Int) + 1 + z) (by omega) (by omega)
        rw [hz, Int.toNat_natCast] at hR
        simp [ha, hun, hz, hw1, hw2]
        refine ⟨i + 1 + z, acc, ⟨by omega, by omega, f, by omega, ?_, hR⟩, ⟨rfl, by omega⟩, by simp [cnt]; omega⟩
        omega
      · rw [if_neg hun] at hR
        rw [hR]
        simp [ha, hun, shO]
  · have hx : ws[i]? = none := List.getElem?_eq_none (by omega)
    simp only [shapesR, hx] at hR
    rw [hR]
    simp [hlt, shO]
end Vm
