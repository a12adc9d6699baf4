/-
  The law ForwardAgain holds of the given program, for every input.
-/
import Derived.Test.YtfplljcicihneaaRows
import Derived.Test.YtfplljcicihneaaUd
import Derived.Test.YtfplljcicihneaaEj
import Derived.Test.YtfplljcicihneaaCk
namespace Go.Proofs.Ytfplljcicihneaa
open Vm Go.ChangeShapes Go.WideShapes Go.ChangeAt Go.RowKit
set_option maxRecDepth 100000
set_option linter.unusedVariables false

theorem forwardAgain_law (xs : List V) (hl : xs.length = Try.f4.params.toList.length) (ht : ∀ (i : Nat) (t : TypeId) (x : V), Try.f4.params.toList[i]? = some t → xs[i]? = some x → tyV Try.prog 8 t x) :
    VC Try.prog 4 false xs (.bool true) := by
  rw [Try.params4] at hl ht
  match xs, hl with
  | [x0, x1, x2, x3], _ =>
    obtain ⟨x, rfl, hx⟩ := ty_rw (ht 0 _ x0 rfl rfl)
    obtain ⟨p, rfl, hp⟩ := ty_vi (ht 1 _ x1 rfl rfl)
    obtain ⟨n, rfl, hn⟩ := ty_vi (ht 2 _ x2 rfl rfl)
    obtain ⟨o, rfl, ho⟩ := ty_vi (ht 3 _ x3 rfl rfl)
    exact law13Again fwdOk hx hp hn ho

theorem forwardAgain_lifted (os : Os) (started : os.Started) (H : Type) (enc : TypeId × Value → H) :
    ReturnsInHanded {} Try.checked os 4 .any (Rows.forwardAgainSpec.pre6 enc Try.prog Try.f4 Rows.forwardAgainRow.domain false) (Rows.forwardAgainSpec.post enc Try.prog Try.f4 false true false false) := by
  refine returnsInHanded_of_change (C := Try.checked) own started (by kernel_rfl) Try.func4
    (ChangeSpec.witness6 (enc := enc) (C := Try.checked) false ⟨#[], #[.agg #[.slice none 0 0, .slice none 0 0, .slice none 0 0, .int .u64 0, .int .i64 0, .int .i64 0, .int .i64 0], .int .i64 0, .int .i64 0, .int .i64 0], []⟩ 8 (by kernel_rfl) (by kernel_rfl) (by kernel_rfl) (by kernel_rfl)) ?_
  intro W base args ds gs before hval hW _ _
  exact law_contract (tb := 4) 8 laidOut (by kernel_rfl) (by kernel_rfl) rfl (by kernel_rfl) Try.underlying4 (fun H ds hd => by
    rw [Try.params4] at hd
    match ds, hd with
    | [_, _, _, _], _ => rfl) forwardAgain_law H enc W base args ds gs before hval hW

theorem forwardAgain_holds : Rows.ForwardAgainSaid :=
  OpenClaim.holds_of_wide 4 Try.f4 rfl rfl rfl rfl rfl rfl rfl ⟨rfl, rfl, rfl, rfl, rfl⟩ rfl rfl rfl rfl rfl (by kernel_rfl) Try.func4 (by kernel_rfl)
    (of_decide_eq_true (by kernel_rfl)) (by unfold Func.isWrapper; first | (rw [if_pos (by decide +kernel)]; kernel_rfl) | (rw [if_neg (by decide +kernel)]; exact ⟨rfl, rfl⟩))
    (fun os started H enc _ => forwardAgain_lifted os started H enc)
#print axioms forwardAgain_holds
end Go.Proofs.Ytfplljcicihneaa
