/-
  The law ForwardTells holds of the given program, for every input.
-/
import Derived.Test.YtfplljcicihneaaRows
import Derived.Test.YtfplljcicihneaaUd
import Derived.Test.YtfplljcicihneaaEj
namespace Go.Proofs.Ytfplljcicihneaa
open Vm Go.ChangeShapes Go.WideShapes Go.ChangeAt Go.RowKit
set_option maxRecDepth 100000
set_option linter.unusedVariables false

theorem forwardTells_law (xs : List V) (hl : xs.length = Try.f3.params.toList.length) (ht : ∀ (i : Nat) (t : TypeId) (x : V), Try.f3.params.toList[i]? = some t → xs[i]? = some x → tyV Try.prog 8 t x) :
    VC Try.prog 3 false xs (.bool true) := by
  rw [Try.params3] at hl ht
  match xs, hl with
  | [x0, x1, x2, x3, x4, x5, x6, x7], _ =>
    obtain ⟨x, rfl, hx⟩ := ty_rw (ht 0 _ x0 rfl rfl)
    obtain ⟨b, rfl, hb⟩ := ty_vu (ht 1 _ x1 rfl rfl)
    obtain ⟨na, nb, nc, nd, ne, nf, rfl, hna, hnb, hnc, hnd, hne, hnf⟩ := ty_i6 (ht 2 _ x2 rfl rfl)
    obtain ⟨s, rfl, hsl, hs⟩ := ty_vus (ht 3 _ x3 rfl rfl)
    obtain ⟨h, rfl, hh⟩ := ty_vi (ht 4 _ x4 rfl rfl)
    obtain ⟨k, rfl, hk⟩ := ty_vi (ht 5 _ x5 rfl rfl)
    obtain ⟨w, rfl, hw⟩ := ty_vu (ht 6 _ x6 rfl rfl)
    obtain ⟨d, rfl, hd⟩ := ty_vu (ht 7 _ x7 rfl rfl)
    exact law13Tells fwdOk hx hb hna hnb hnc hnd hne hnf (by have := hsl; unfold maxLen at this; omega) hh hk hw hd

theorem forwardTells_lifted (os : Os) (started : os.Started) (H : Type) (enc : TypeId × Value → H) :
    ReturnsInHanded {} Try.checked os 3 .any (Rows.forwardTellsSpec.pre6 enc Try.prog Try.f3 Rows.forwardTellsRow.domain false) (Rows.forwardTellsSpec.post enc Try.prog Try.f3 false true false false) := by
  refine returnsInHanded_of_change (C := Try.checked) own started (by kernel_rfl) Try.func3
    (ChangeSpec.witness6 (enc := enc) (C := Try.checked) false ⟨#[], #[.agg #[.slice none 0 0, .slice none 0 0, .slice none 0 0, .int .u64 0, .int .i64 0, .int .i64 0, .int .i64 0], .int .u64 0, .agg #[.int .i64 0, .int .i64 0, .int .i64 0, .int .i64 0, .int .i64 0, .int .i64 0], .slice none 0 0, .int .i64 0, .int .i64 0, .int .u64 0, .int .u64 0], []⟩ 8 (by kernel_rfl) (by kernel_rfl) (by kernel_rfl) (by kernel_rfl)) ?_
  intro W base args ds gs before hval hW _ _
  exact law_contract (tb := 4) 8 laidOut (by kernel_rfl) (by kernel_rfl) rfl (by kernel_rfl) Try.underlying4 (fun H ds hd => by
    rw [Try.params3] at hd
    match ds, hd with
    | [_, _, _, _, _, _, _, _], _ => rfl) forwardTells_law H enc W base args ds gs before hval hW

theorem forwardTells_holds : Rows.ForwardTellsSaid :=
  OpenClaim.holds_of_wide 3 Try.f3 rfl rfl rfl rfl rfl rfl rfl ⟨rfl, rfl, rfl, rfl, rfl⟩ rfl rfl rfl rfl rfl (by kernel_rfl) Try.func3 (by kernel_rfl)
    (of_decide_eq_true (by kernel_rfl)) (by unfold Func.isWrapper; first | (rw [if_pos (by decide +kernel)]; kernel_rfl) | (rw [if_neg (by decide +kernel)]; exact ⟨rfl, rfl⟩))
    (fun os started H enc _ => forwardTells_lifted os started H enc)
#print axioms forwardTells_holds
end Go.Proofs.Ytfplljcicihneaa
