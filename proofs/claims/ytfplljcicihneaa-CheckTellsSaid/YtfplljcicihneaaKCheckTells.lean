/-
  The law CheckTells holds of the given program, for every input.
-/
import Derived.Test.YtfplljcicihneaaRows
import Derived.Test.YtfplljcicihneaaUd
import Derived.Test.YtfplljcicihneaaUe
namespace Go.Proofs.Ytfplljcicihneaa
open Vm Go.ChangeShapes Go.WideShapes Go.ChangeAt Go.RowKit
set_option maxRecDepth 100000
set_option linter.unusedVariables false

theorem checkTells_law (xs : List V) (hl : xs.length = Try.f5.params.toList.length) (ht : ∀ (i : Nat) (t : TypeId) (x : V), Try.f5.params.toList[i]? = some t → xs[i]? = some x → tyV Try.prog 8 t x) :
    VC Try.prog 5 false xs (.bool true) := by
  rw [Try.params5] at hl ht
  match xs, hl with
  | [x0, x1, x2, x3, x4, x5, x6], _ =>
    obtain ⟨o, rfl, ho⟩ := ty_hp (ht 0 _ x0 rfl rfl)
    obtain ⟨x, rfl, hx⟩ := ty_rw (ht 1 _ x1 rfl rfl)
    obtain ⟨h, rfl, hh⟩ := ty_vi (ht 2 _ x2 rfl rfl)
    obtain ⟨n, rfl, hn⟩ := ty_vi (ht 3 _ x3 rfl rfl)
    obtain ⟨w, rfl, hw⟩ := ty_vu (ht 4 _ x4 rfl rfl)
    obtain ⟨q, rfl, hq⟩ := ty_vi (ht 5 _ x5 rfl rfl)
    obtain ⟨p, rfl, hp⟩ := ty_vi (ht 6 _ x6 rfl rfl)
    exact law11Tells ho hx hh hn hw hq hp

theorem checkTells_lifted (os : Os) (started : os.Started) (H : Type) (enc : TypeId × Value → H) :
    ReturnsInHanded {} Try.checked os 5 .any (Rows.checkTellsSpec.pre6 enc Try.prog Try.f5 Rows.checkTellsRow.domain false) (Rows.checkTellsSpec.post enc Try.prog Try.f5 false true false false) := by
  refine returnsInHanded_of_change (C := Try.checked) own started (by kernel_rfl) Try.func5
    (ChangeSpec.witness6 (enc := enc) (C := Try.checked) false ⟨#[], #[.agg #[.int .u64 0, .int .i64 0, .int .i64 0, .bool false, .int .i64 0, .slice none 0 0, .slice none 0 0, .slice none 0 0, .slice none 0 0, .slice none 0 0], .agg #[.slice none 0 0, .slice none 0 0, .slice none 0 0, .int .u64 0, .int .i64 0, .int .i64 0, .int .i64 0], .int .i64 0, .int .i64 0, .int .u64 0, .int .i64 0, .int .i64 0], []⟩ 8 (by kernel_rfl) (by kernel_rfl) (by kernel_rfl) (by kernel_rfl)) ?_
  intro W base args ds gs before hval hW _ _
  exact law_contract (tb := 4) 8 laidOut (by kernel_rfl) (by kernel_rfl) rfl (by kernel_rfl) Try.underlying4 (fun H ds hd => by
    rw [Try.params5] at hd
    match ds, hd with
    | [_, _, _, _, _, _, _], _ => rfl) checkTells_law H enc W base args ds gs before hval hW

theorem checkTells_holds : Rows.CheckTellsSaid :=
  OpenClaim.holds_of_wide 5 Try.f5 rfl rfl rfl rfl rfl rfl rfl ⟨rfl, rfl, rfl, rfl, rfl⟩ rfl rfl rfl rfl rfl (by kernel_rfl) Try.func5 (by kernel_rfl)
    (of_decide_eq_true (by kernel_rfl)) (by unfold Func.isWrapper; first | (rw [if_pos (by decide +kernel)]; kernel_rfl) | (rw [if_neg (by decide +kernel)]; exact ⟨rfl, rfl⟩))
    (fun os started H enc _ => checkTells_lifted os started H enc)
#print axioms checkTells_holds
end Go.Proofs.Ytfplljcicihneaa
